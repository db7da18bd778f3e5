/- More lines for the row. -/
import Derived.Test.YtmddmbagehjdeaaZGorillaDatas8
import Derived.Outline
set_option linter.unusedVariables false
set_option linter.unusedSimpArgs false
set_option maxRecDepth 100000
set_option maxHeartbeats 8000000
section
namespace Go.Proofs.Ytmddmbagehjdeaa.G
open Go Go.RowKit Go.Shelf Go.Proofs.YtmddmbagehjdeaaW.PrintWords Go.Proofs.YtmddmbagehjdeaaW.PrintLast Go.Proofs.YtmddmbagehjdeaaW.PrintMore
attribute [local go_sem] Oper.semAt_some
attribute [local go_sem] S3 R3 R4 S4
def inB (x:Int):Bool:=decide (-4398046511104≤x) && decide (x≤4398046511104)
def I8 (z:List S67×S67×S67) (a b:Int):List S67×S67×S67 :=
 (z.1++[⟨wrap64 (z.2.1.f0+wrap64 (z.2.2.f0+a)),wrap64 (z.2.1.f1+wrap64 (z.2.2.f1+b))⟩],⟨wrap64 (z.2.1.f0+wrap64 (z.2.2.f0+a)),wrap64 (z.2.1.f1+wrap64 (z.2.2.f1+b))⟩,
  if z.1.length+1>1 then⟨wrap64 (z.2.2.f0+a),wrap64 (z.2.2.f1+b)⟩else z.2.2)
def numA (nums:List Int) (j:Nat):Int:=rd nums ((1+2*j:Nat):Int)
def numB (nums:List Int) (j:Nat):Int:=rd nums ((2+2*j:Nat):Int)
def ae8 (nums:List Int) (j:Nat):Bool:=inB (numA nums j) && inB (numB nums j)
def Z8 (nums:List Int) {m:Nat} (pre:List (Fin m)):List S67×S67×S67:=pre.foldl (fun z j=>I8 z (numA nums j.val) (numB nums j.val)) ([],z67,z67)
theorem ag6 (nums:List Int) {m:Nat} (pre:List (Fin m)) (x:Fin m):Z8 nums (pre++[x])=I8 (Z8 nums pre) (numA nums x.val) (numB nums x.val):=by simp [Z8]
set_option maxHeartbeats 1000000 in
theorem aR4 (a:Int) (w:World):Calls Try.prog 86 #[.int .i64 a] w fun e w'=>e=.returned (.bool (inB a))∧w'=w:=by
 by_cases h1 : -4398046511104≤a
 ·by_cases h2:a≤4398046511104
  ·have e:inB a=true:=by simp [inB,h1,h2]
   rw [e]
   go_enter Try.func86,Try.ntmps86
   go_wp2
   go_ret
   exact⟨rfl,rfl⟩
  ·have e:inB a=false:=by simp [inB,h2]
   rw [e]
   have h3:decide (a≤4398046511104)=false:=decide_eq_false h2
   go_enter Try.func86,Try.ntmps86
   go_wp2
   go_ret
   exact⟨rfl,rfl⟩
 ·have e:inB a=false:=by simp [inB,h1]
  rw [e]
  have h3:decide (-4398046511104≤a)=false:=decide_eq_false h1
  go_enter Try.func86,Try.ntmps86
  go_wp2
  go_ret
  exact⟨rfl,rfl⟩
theorem ae3 {W W':World} {row:Option Nat} {l:Nat} {cs:Array Value} {t:Nat} (h:W.heap[l]?=some (.cells cs t (0,0))) (hg:W.grownBy W' row) (hr:∀ r,row=some r→∃ o:Obj,W.heap[r]?=some o∧o.isCells=false):W'.heap[l]?=some (.cells cs t (0,0)):=by
 refine(hg.block l (Array.getElem?_eq_some_iff.1 h).1 (fun e=>?_)).trans h
 obtain⟨o,ho,hc⟩:=hr l e.symm
 rw [h] at ho
 injection ho with ho
 subst ho
 cases hc
theorem bP6 {α:Type} {d:Kd α} {e:Nat} {W W':World} {base:Nat} {ok:Nat→Prop} {v:Value} {xs:List α} {row:Option Nat} (h:d.R e W base ok v xs) (hg:W.grownBy W' row) (hr:∀ r,row=some r→∃ o:Obj,W.heap[r]?=some o∧o.isCells=false):d.R e W' base ok v xs :=
 Kd.R_mono (Kd.R_move (Kd.R_bound h) (fun k hk=>hg.block k hk.2.2.1 (fun e=>by
  obtain⟨o,ho,hc⟩:=hr k e.symm
  obtain⟨_,_,_,q,hq,cells,hk2⟩:=hk
  rw [hk2] at ho
  injection ho with ho
  subst ho
  cases hc))) (fun _ hk=>hk.1)
theorem az6 (W:World) (o:Obj) (k:Nat) (h:W.heap.size=k):(W.alloc o).heap[k]?=some o:=by subst h;exact World.alloc_heap_new W o
theorem az8 (W:World) (o o':Obj) (k:Nat) (hk:W.heap[k]?=some o'):(W.alloc o).heap[k]?=some o':=(Below.heap_alloc W o k (Array.getElem?_eq_some_iff.1 hk).1).trans hk
def UI (w:World) (nums:List Int) {m:Nat} (pre:List (Fin m)) (W:World):Prop :=
 (∀ j ∈ pre,ae8 nums j.val=true)∧W.heap[w.heap.size+1]?=some (.cells #[.slice none 0 0] 65 (0,0))∧W.heap[w.heap.size+1+1]?=some (.cells #[.int .i64 0] 26 (0,0)) ∧
 W.heap[w.heap.size+1+1+1+1]?=some (.cells #[.int .i64 (Z8 nums pre).2.1.f0,.int .i64 (Z8 nums pre).2.1.f1] 67 (0,0)) ∧
 W.heap[w.heap.size+1+1+1+1+1]?=some (.cells #[.int .i64 (Z8 nums pre).2.2.f0,.int .i64 (Z8 nums pre).2.2.f1] 67 (0,0)) ∧
 (∃ v,W.heap[w.heap.size+1+1+1]?=some (.cells #[v] 65 (0,0))∧Kd.R k67 67 W w.heap.size (fun k=>w.heap.size+8≤k) v (Z8 nums pre).1)∧Below w.heap.size w W∧w.heap.size+8≤W.heap.size
def UX (w:World) (nums:List Int) {m:Nat} (c:Code) (pre:List (Fin m)) (W:World):Prop :=
 c=.ret∧(∃ j ∈ pre,ae8 nums j.val=false)∧W.heap[w.heap.size+1]?=some (.cells #[.slice none 0 0] 65 (0,0))∧W.heap[w.heap.size+1+1]?=some (.cells #[.int .i64 2] 26 (0,0))∧Below w.heap.size w W
theorem cI8 (w:World) (nums:List Int) {m:Nat} (B:Nat) (hB:w.heap.size≤B):OwnFrom B (UI w nums (m:=m)):=by
 rintro s W W' row ⟨h0,h1,h2,h3,h4,⟨v,h5,h6⟩,h7,h8⟩ hg hr
 have hr':=fun r e=>(hr r e).2
 exact⟨h0,ae3 h1 hg hr',ae3 h2 hg hr',ae3 h3 hg hr',ae3 h4 hg hr',⟨v,ae3 h5 hg hr',bP6 h6 hg hr'⟩,h7.grown hg h7.size (fun k e=>Nat.le_trans hB (hr k e).1),Nat.le_trans h8 hg.size⟩
theorem cN2 (w:World) (nums:List Int) {m:Nat} (B:Nat) (hB:w.heap.size≤B) (c:Code):OwnFrom B (UX w nums (m:=m) c):=by
 rintro s W W' row ⟨h0,h00,h1,h2,h7⟩ hg hr
 have hr':=fun r e=>(hr r e).2
 exact⟨h0,h00,ae3 h1 hg hr',ae3 h2 hg hr',h7.grown hg h7.size (fun k e=>Nat.le_trans hB (hr k e).1)⟩
theorem cL8 {C G:Prop} (main:C→G) (cont:C):G:=main cont
theorem cm1 (w W:World) (nums:List Int) {m:Nat} (pre:List (Fin m)) (x:Fin m) (hb:ae8 nums x.val=false) (h1:W.heap[w.heap.size+1]?=some (.cells #[.slice none 0 0] 65 (0,0))) (h2:W.heap[w.heap.size+1+1]?=some (.cells #[.int .i64 0] 26 (0,0))) (h7:Below w.heap.size w W) :
  KeepsOthers W ((W.setCell ⟨w.heap.size+1,0,none⟩ (.slice none 0 0)).setCell ⟨w.heap.size+1+1,0,none⟩ (.int .i64 2))∧UX w nums .ret (pre++[x]) ((W.setCell ⟨w.heap.size+1,0,none⟩ (.slice none 0 0)).setCell ⟨w.heap.size+1+1,0,none⟩ (.int .i64 2)):=by
 refine⟨(KeepsOthers.setCell _ _ _).trans (KeepsOthers.setCell _ _ _),rfl,⟨x,by simp,hb⟩,?_,?_,?_⟩
 ·exact Y0 (p:=⟨w.heap.size+1+1,0,none⟩) (S8 h1 0 _) (by simp) _
 ·exact S8 (Y0 (p:=⟨w.heap.size+1,0,none⟩) h2 (by simp) _) 0 _
 ·exact(h7.setCell (by simp only;omega) _).setCell (by simp only;omega) _
theorem bY3 (nums:List Int) {m:Nat} (pre:List (Fin m)):(Z8 nums pre).1.length=pre.length:=by
 unfold Z8
 have:∀ (l:List (Fin m)) (z:List S67×S67×S67),(l.foldl (fun z j=>I8 z (numA nums j.val) (numB nums j.val)) z).1.length=z.1.length+l.length:=by
  intro l
  induction l with
  |nil=>intro z;rfl
  |cons y ys ih=>intro z;rw [List.foldl_cons,ih];simp [I8];omega
 simpa using this pre ([],z67,z67)
theorem aK3 {α:Type} {d:Kd α} {e:Nat} {W:World} {base:Nat} {ok:Nat→Prop} {v:Value} {xs:List α} (h:d.R e W base ok v xs) (p:Addr) (u:Value) (hp:∀ k,ok k→k≠p.block):d.R e (W.setCell p u) base ok v xs :=
 Kd.R_move h (fun k hk=>Below.heap_setCell _ _ _ _ (hp k hk))
theorem cx5 (w w' w1:World) (nums:List Int) {m:Nat} (pre:List (Fin m)) (x:Fin m) (A B X Y:Int) (v v1:Value) (hA:A=wrap64 ((Z8 nums pre).2.2.f0+numA nums x.val)) (hB:B=wrap64 ((Z8 nums pre).2.2.f1+numB nums x.val))
  (hX:X=wrap64 ((Z8 nums pre).2.1.f0+A)) (hY:Y=wrap64 ((Z8 nums pre).2.1.f1+B)) (hgood:∀ j ∈ pre,ae8 nums j.val=true) (hx:ae8 nums x.val=true) (K1:KeepsOthers w' w1)
  (g1:w1.heap[w.heap.size+1]?=some (.cells #[.slice none 0 0] 65 (0,0))) (g2:w1.heap[w.heap.size+1+1]?=some (.cells #[.int .i64 0] 26 (0,0))) (g3:w1.heap[w.heap.size+1+1+1]?=some (.cells #[v] 65 (0,0)))
  (g4:w1.heap[w.heap.size+1+1+1+1]?=some (.cells #[.int .i64 X,.int .i64 Y] 67 (0,0))) (g5:w1.heap[w.heap.size+1+1+1+1+1]?=some (.cells #[.int .i64 (Z8 nums pre).2.2.f0,.int .i64 (Z8 nums pre).2.2.f1] 67 (0,0)))
  (g6:w1.heap[w.heap.size+1+1+1+1+1+1]?=w'.heap[w.heap.size+1+1+1+1+1+1]?) (g7:w1.heap[w.heap.size+1+1+1+1+1+1+1]?=w'.heap[w.heap.size+1+1+1+1+1+1+1]?)
  (hr1:Kd.R k67 67 w1 w.heap.size (fun k=>w.heap.size+8≤k) v1 ((Z8 nums pre).1++[⟨X,Y⟩])) (hb1:Below w.heap.size w w1) (hs1:w.heap.size+8≤w1.heap.size) :
  (∀ Wf:World,¬ 1<(Z8 nums pre).1.length+1→Wf=w1.setCell ⟨w.heap.size+1+1+1,0,none⟩ v1→KeepsOthers w' Wf∧ae2 (w.heap.size+1+1+1+1+1+1) (w.heap.size+1+1+1+1+1+1+1) w' Wf∧UI w nums (pre++[x]) Wf) ∧
  (∀ Wf:World,1<(Z8 nums pre).1.length+1→Wf=((w1.setCell ⟨w.heap.size+1+1+1,0,none⟩ v1).setCell ⟨w.heap.size+1+1+1+1+1,0,none⟩ (.int .i64 A)).setCell ⟨w.heap.size+1+1+1+1+1,1,none⟩ (.int .i64 B)→KeepsOthers w' Wf∧ae2 (w.heap.size+1+1+1+1+1+1) (w.heap.size+1+1+1+1+1+1+1) w' Wf∧UI w nums (pre++[x]) Wf):=by
 have hg':∀ j ∈ pre++[x],ae8 nums j.val=true:=fun j hj=>by
  rcases List.mem_append.1 hj with h|h
  ·exact hgood j h
  ·rw [List.mem_singleton.1 h];exact hx
 have far:∀ (W:World) (g h' i:Nat) (u:Value) (cs:Array Value) (t:Nat),W.heap[g]?=some (.cells cs t (0,0))→g≠h'→(W.setCell ⟨h',i,none⟩ u).heap[g]?=some (.cells cs t (0,0)):=fun W g h' i u cs t hb hne=>Y0 (p:=⟨h',i,none⟩) hb hne u
 have same:∀ (W:World) (g h' i:Nat) (u:Value),g≠h'→(W.setCell ⟨h',i,none⟩ u).heap[g]?=W.heap[g]?:=fun W g h' i u hne=>Below.heap_setCell W ⟨h',i,none⟩ u g hne
 constructor
 ·rintro Wf hc rfl
  refine⟨K1.trans (KeepsOthers.setCell _ _ _),⟨?_,?_⟩,hg',?_,?_,?_,?_,⟨v1,?_,?_⟩,hb1.setCell (by simp only;omega) _,by simpa using hs1⟩
  ·rw [same _ _ _ _ _ (by omega)];exact g6
  ·rw [same _ _ _ _ _ (by omega)];exact g7
  ·exact far _ _ _ _ _ _ _ g1 (by omega)
  ·exact far _ _ _ _ _ _ _ g2 (by omega)
  ·rw [ag6]
   simp only [I8]
   rw [←hA,←hB,←hX,←hY]
   exact far _ _ _ _ _ _ _ g4 (by omega)
  ·rw [ag6]
   simp only [I8]
   rw [if_neg (by simpa using hc)]
   exact far _ _ _ _ _ _ _ g5 (by omega)
  ·exact S8 g3 0 v1
  ·rw [ag6]
   simp only [I8]
   rw [←hA,←hB,←hX,←hY]
   exact aK3 hr1 _ _ (fun k hk=>by simp only;omega)
 ·rintro Wf hc rfl
  refine⟨((K1.trans (KeepsOthers.setCell _ _ _)).trans (KeepsOthers.setCell _ _ _)).trans (KeepsOthers.setCell _ _ _),⟨?_,?_⟩,hg',?_,?_,?_,?_,⟨v1,?_,?_⟩,((hb1.setCell (by simp only;omega) _).setCell (by simp only;omega) _).setCell (by simp only;omega) _,by simpa using hs1⟩
  ·rw [same _ _ _ _ _ (by omega),same _ _ _ _ _ (by omega),same _ _ _ _ _ (by omega)];exact g6
  ·rw [same _ _ _ _ _ (by omega),same _ _ _ _ _ (by omega),same _ _ _ _ _ (by omega)];exact g7
  ·exact far _ _ _ _ _ _ _ (far _ _ _ _ _ _ _ (far _ _ _ _ _ _ _ g1 (by omega)) (by omega)) (by omega)
  ·exact far _ _ _ _ _ _ _ (far _ _ _ _ _ _ _ (far _ _ _ _ _ _ _ g2 (by omega)) (by omega)) (by omega)
  ·rw [ag6]
   simp only [I8]
   rw [←hA,←hB,←hX,←hY]
   exact far _ _ _ _ _ _ _ (far _ _ _ _ _ _ _ (far _ _ _ _ _ _ _ g4 (by omega)) (by omega)) (by omega)
  ·rw [ag6]
   simp only [I8]
   rw [if_pos (by simpa using hc)]
   rw [←hA,←hB]
   exact S8 (S8 (far _ _ _ _ _ _ _ g5 (by omega)) 0 _) 1 _
  ·exact far _ _ _ _ _ _ _ (far _ _ _ _ _ _ _ (S8 g3 0 v1) (by omega)) (by omega)
  ·rw [ag6]
   simp only [I8]
   rw [←hA,←hB,←hX,←hY]
   exact aK3 (aK3 (aK3 hr1 _ _ (fun k hk=>by simp only;omega)) _ _ (fun k hk=>by simp only;omega)) _ _ (fun k hk=>by simp only;omega)
theorem bl5 (w Wf:World) (r1:List S67) (r2:Int) (Q:Ending→World→Prop) (hQ:(fun e w'=>∃ v0_:Value,e=.returned (.tuple #[v0_,.int .i64 r2])∧Kd.R k67 67 w' w.heap.size (fun _=>True) v0_ r1∧Below w.heap.size w w')=Q)
  (tm:Array Value) (D:Nat) (hD:w.heap.size≤D) (v0:Value) (ht2:tm[2]?.getD undef=.pointer (some ⟨w.heap.size+1,0,none⟩)) (ht3:tm[3]?.getD undef=.pointer (some ⟨w.heap.size+1+1,0,none⟩))
  (h1:Wf.heap[w.heap.size+1]?=some (.cells #[v0] 65 (0,0))) (h2:Wf.heap[w.heap.size+1+1]?=some (.cells #[.int .i64 r2] 26 (0,0))) (hK:Wf.heap[D]?=some (.deferred (some []))) (hR:Kd.R k67 67 Wf w.heap.size (fun _=>True) v0 r1) (hB:Below w.heap.size w Wf) :
  bodyPostM Fence.wide 5 Try.prog Try.f73 Q Exit.ret { tmps:=tm,defers:=[{ target:=Target.collected D,args:=#[] }] } Wf:=by
 refine⟨by simp,.inl ⟨_,_,rfl,run_takeDeferred hK,?_⟩⟩
 have hg:=grownBy_putObj' Wf D (.deferred none)
 have hr:∀ r,some D=some r→∃ o:Obj,Wf.heap[r]?=some o∧o.isCells=false:=fun r e=>by cases e;exact⟨_,hK,rfl⟩
 have g1:=ae3 h1 hg hr
 have g2:=ae3 h2 hg hr
 have c1:(Wf.putObj D (.deferred none)).cell? ⟨w.heap.size+1,0,none⟩=some v0:=(m0 g1 0).trans rfl
 have c2:(Wf.putObj D (.deferred none)).cell? ⟨w.heap.size+1+1,0,none⟩=some (.int .i64 r2):=(m0 g2 0).trans rfl
 refine⟨.tuple #[v0,.int .i64 r2],?_,?_⟩
 ·simp [results,Try.f73,go_sem,c1,c2,ht2,ht3]
 ·rw [←hQ]
  exact⟨v0,rfl,bP6 hR hg hr,hB.grown hg hB.size (fun k e=>by cases e;exact hD)⟩
theorem cq2 (w W:World) (h1:W.heap[w.heap.size+1]?=some (.cells #[.slice none 0 0] 65 (0,0))) (h2:W.heap[w.heap.size+1+1]?=some (.cells #[.int .i64 0] 26 (0,0))) (h7:Below w.heap.size w W) (Wf:World) (hW:Wf=(W.setCell ⟨w.heap.size+1,0,none⟩ (.slice none 0 0)).setCell ⟨w.heap.size+1+1,0,none⟩ (.int .i64 2)) :
  KeepsOthers W Wf∧Wf.heap[w.heap.size+1]?=some (.cells #[.slice none 0 0] 65 (0,0))∧Wf.heap[w.heap.size+1+1]?=some (.cells #[.int .i64 2] 26 (0,0))∧Below w.heap.size w Wf:=by
 subst hW
 exact⟨(KeepsOthers.setCell _ _ _).trans (KeepsOthers.setCell _ _ _),Y0 (p:=⟨w.heap.size+1+1,0,none⟩) (S8 h1 0 _) (by simp) _,S8 (Y0 (p:=⟨w.heap.size+1,0,none⟩) h2 (by simp) _) 0 _,(h7.setCell (by simp only;omega) _).setCell (by simp only;omega) _⟩
theorem cb1 (w W:World) (v:Value) (h1:W.heap[w.heap.size+1]?=some (.cells #[.slice none 0 0] 65 (0,0))) (h2:W.heap[w.heap.size+1+1]?=some (.cells #[.int .i64 0] 26 (0,0))) (h7:Below w.heap.size w W) (r1:List S67) (hR:Kd.R k67 67 W w.heap.size (fun k=>w.heap.size+8≤k) v r1) (Wf:World) (hW:Wf=(W.setCell ⟨w.heap.size+1,0,none⟩ v).setCell ⟨w.heap.size+1+1,0,none⟩ (.int .i64 0)) :
  KeepsOthers W Wf∧Wf.heap[w.heap.size+1]?=some (.cells #[v] 65 (0,0))∧Wf.heap[w.heap.size+1+1]?=some (.cells #[.int .i64 0] 26 (0,0))∧Kd.R k67 67 Wf w.heap.size (fun _=>True) v r1∧Below w.heap.size w Wf:=by
 subst hW
 exact⟨(KeepsOthers.setCell _ _ _).trans (KeepsOthers.setCell _ _ _),Y0 (p:=⟨w.heap.size+1+1,0,none⟩) (S8 h1 0 _) (by simp) _,S8 (Y0 (p:=⟨w.heap.size+1,0,none⟩) h2 (by simp) _) 0 _,Kd.R_mono (aK3 (aK3 hR _ _ (fun k hk=>by simp only;omega)) _ _ (fun k hk=>by simp only;omega)) (fun _ _=>trivial),(h7.setCell (by simp only;omega) _).setCell (by simp only;omega) _⟩
set_option maxHeartbeats 4000000 in
theorem cm2 (k:Nat) (ad:Addr) (c0_0:Nat) (nums:List Int) (A0_1:Option Addr) (c0_1:Nat) (texts:List ByteArray) (w:World) (hr0:Kd.C (Kd.int .i64) w (some ad) nums.length nums) (hc0:nums.length≤c0_0)
  (m:Nat) (hm:nums.length=2*m+1) (hm64:m≤64) (h00:rd nums 0=m) (ht:texts=[]) (r1:List S67) (r2:Int)
  (hres1:(∀ j:Fin m,ae8 nums j.val=true)→∃ rc,q39.f k (Z8 nums (List.finRange m)).1=some rc∧(r1,r2)=if rc=0 then((Z8 nums (List.finRange m)).1,(0:Int))else([],2))
  (hres2:(∃ j:Fin m,ae8 nums j.val=false)→(r1,r2)=([],(2:Int))) :
  Calls Try.prog 73 #[.agg #[.slice (some ad) nums.length c0_0,.slice A0_1 texts.length c0_1]] w fun e w'=>∃ v0_:Value,e=.returned (.tuple #[v0_,.int .i64 r2])∧Kd.R k67 67 w' w.heap.size (fun _=>True) v0_ r1∧Below w.heap.size w w':=by
 obtain⟨Q,hQ⟩:∃ Q:Ending→World→Prop,(fun e w'=>∃ v0_:Value,e=.returned (.tuple #[v0_,.int .i64 r2])∧Kd.R k67 67 w' w.heap.size (fun _=>True) v0_ r1∧Below w.heap.size w w')=Q:=⟨_,rfl⟩
 rw [hQ]
 have HQQ:=q5.mk hQ
 have HRES1:=q5.mk hres1
 have HRES2:=q5.mk hres2
 clear hQ hres1 hres2
 refine(callsIn_wide (n:=5)).1 ?_
 have hro:Fence.wide.round=none:=rfl
 have hfn:∀ f,Fence.wide.fn f=True:=fun _=>eq_true trivial
 refine callsIn_of_wp_marks Try.func73 rfl trivial ?_ hro
 simp only [Try.ntmps73,List.size_toArray,List.length_cons,List.length_nil,Nat.reduceAdd,Nat.reduceSub,Array.replicate_succ,Array.replicate_zero,List.push_toArray,List.append_toArray,List.nil_append,List.cons_append]
 subst ht
 have hu29:=Try.underlying98
 have hu42:=Try.underlying67
 have hc00:w.cell? ad=some (.int .i64 m):=by
  obtain⟨ad',e,hx⟩:=Kd.at_int hr0 0 (by omega) (by omega)
  cases e
  rw [h00] at hx
  simpa [Addr.add] using hx
 have hlt:=World.block_lt_of_cell? w _ hc00
 have hA:∀ o1 o2 o3,(((w.alloc o1).alloc o2).alloc o3).cell? ad=some (.int .i64 m):=fun o1 o2 o3=>by
  rw [World.cell?_alloc_lt _ _ _ (by simp;omega),World.cell?_alloc_lt _ _ _ (by simp;omega),World.cell?_alloc_lt _ _ _ hlt,hc00]
 obtain⟨q,hq⟩:∃ q:Int,q=(m:Int):=⟨_,rfl⟩
 rw [←hq] at hA
 have HQ:=q5.mk hq
 have t1:(2*(m:Int)+1 == 0)=false:=by simp;omega
 have t2:(2*(m:Int)+1) / 2=q:=by omega
 have t3:decide (64<q)=false:=by simp;omega
 clear hq
 obtain⟨i0,hi,hz0,hz1,hz2⟩:=info_parts ae7
 obtain⟨A1,hA1,hcut⟩:∃ A1:Option Addr,(m=0∨A1=some ⟨ad.block,ad.off+1,none⟩)∧∀ W:World,(Instr.slice 22 (.slice (some ad) (2*m+1) c0_0) (some (.int .i64 1)) none none).run Try.prog W=.ok (.slice A1 (2*m) (c0_0 - 1)) W:=by
  refine⟨if c0_0=1 then some ad else some ⟨ad.block,ad.off+1,none⟩,?_,fun W=>?_⟩
  ·rcases Nat.eq_zero_or_pos m with h|h
   ·exact .inl h
   ·exact .inr (if_neg (by omega))
  ·have h:=aL3 (P:=Try.prog) 22 3 .i64 Try.underlying22 hi 1 hz1 (some ad) (2*m+1) c0_0 1 (by omega) (by omega) W
   exact h
 have HA1:=q5.mk hA1
 clear hi hz0 hz1 hz2 hA1
 clear hc00 h00
 have HLT:=q5.mk hlt
 have HM:=q5.mk hm
 have HRR:=q5.mk hr0
 have HC:=q5.mk hc0
 have hn1:nums.length=2*m+1:=hm
 clear hlt hm hr0 hc0
 gi_wp2_with (gi_at_call 85;refine(cn5 Fence.wide 4 trivial hro _ _ _ _).mono ?_;rintro e w' ⟨rfl,rfl⟩)
 obtain⟨W0,hW0⟩:∃ W0:World,((((((((w.alloc (Obj.cells #[Value.slice (some ad) (2*m+1) c0_0,Value.slice A0_1 0 c0_1] 98)).alloc (Obj.cells #[Value.slice none 0 0] 65)).alloc (Obj.cells #[Value.int IntKind.i64 0] 26)).alloc (Obj.cells #[Value.slice none 0 0] 65)).alloc (Obj.cells #[Value.int IntKind.i64 0,Value.int IntKind.i64 0] 67)).alloc (Obj.cells #[Value.int IntKind.i64 0,Value.int IntKind.i64 0] 67)).alloc (Obj.cells #[Value.slice A1 (2*m) (c0_0 - 1)] 22)).alloc (Obj.cells #[Value.int IntKind.i64 2] 3))=W0:=⟨_,rfl⟩
 have hsz:W0.heap.size=w.heap.size+8:=by rw [←hW0];simp
 have hB0:Below w.heap.size w W0:=by
  rw [←hW0]
  exact((((((((Below.refl _ w).alloc (Nat.le_refl _) _).alloc (by simp) _).alloc (by simp;omega) _).alloc (by simp;omega) _).alloc (by simp;omega) _).alloc (by simp;omega) _).alloc (by simp;omega) _).alloc (by simp;omega) _
 have hI0:UI w nums (m:=m) [] W0:=by
  rw [←hW0]
  refine⟨fun j hj=>by simp at hj,?_,?_,?_,?_,⟨.slice none 0 0,?_,Kd.R_nil _ _ _ _ _⟩,by rw [hW0];exact hB0,by rw [hW0,hsz];exact Nat.le_refl _⟩
  all_goals (repeat(first|(refine az6 _ _ _ ?_;simp;done)|refine az8 _ _ _ _ ?_))
 have hcs:W0.cell? ⟨w.heap.size+1+1+1+1+1+1,0,none⟩=some (.slice A1 (2*m) (c0_0 - 1)):=by
  have hb:W0.heap[w.heap.size+1+1+1+1+1+1]?=some (.cells #[.slice A1 (2*m) (c0_0 - 1)] 22 (0,0)):=by
   rw [←hW0]
   repeat(first|(refine az6 _ _ _ ?_;simp;done)|refine az8 _ _ _ _ ?_)
  exact(m0 hb 0).trans rfl
 have hcn:W0.cell? ⟨w.heap.size+1+1+1+1+1+1+1,0,none⟩=some (.int .i64 2):=by
  have hb:W0.heap[w.heap.size+1+1+1+1+1+1+1]?=some (.cells #[.int .i64 2] 3 (0,0)):=by
   rw [←hW0]
   repeat(first|(refine az6 _ _ _ ?_;simp;done)|refine az8 _ _ _ _ ?_)
  exact(m0 hb 0).trans rfl
 have hsv:bX7 m (.slice A1 (2*m) (c0_0 - 1)) ad.block (ad.off+1):=by
  have:=HC.out
  have hm:=HM.out
  rcases HA1.out with h|h
  ·subst h;exact .inl ⟨rfl,_,_,rfl⟩
  ·subst h;exact .inr ⟨_,rfl,by omega⟩
 have HSZ:=q5.mk hsz
 rw [hW0]
 clear hW0 hsz
 refine wpIn_rangeFunc_ownF hro (by omega) (gf:=91) (lb:=#[.pointer (some ⟨w.heap.size+1+1+1+1+1+1,0,none⟩),.pointer (some ⟨w.heap.size+1+1+1+1+1+1+1,0,none⟩)]) rfl trivial (enters_of Try.func91 (by kernel_rfl) rfl)
  (bx7 Fence.wide 4 trivial hro (by omega) _ _ ad.block (ad.off+1) m (by omega) _ hsv W0 (by have:=HSZ.out;omega) (by have:=HSZ.out;omega) hcs hcn) aV0 (bP8 (by have:=HSZ.out;omega) (by have:=HSZ.out;omega)) (Below.refl _ _) (fun _=>rfl)
  (UI w nums) (UX w nums) (cI8 w nums _ hB0.size) (cN2 w nums _ hB0.size) hI0
  (fun x=>{ tmps:=#[Value.agg #[Value.slice (some ad) (2*m+1) c0_0,Value.slice A0_1 0 c0_1],Value.pointer (some { block:=w.heap.size,off:=0 }),Value.pointer (some { block:=w.heap.size+1,off:=0 }),Value.pointer (some { block:=w.heap.size+1+1,off:=0 }),Value.int IntKind.i64 (2*(m:Int)+1),Value.pointer (some { block:=w.heap.size+1+1+1,off:=0 }),Value.pointer (some { block:=w.heap.size+1+1+1+1,off:=0 }),Value.pointer (some { block:=w.heap.size+1+1+1+1+1,off:=0 }),Value.slice (some { block:=ad.block,off:=ad.off+1+2*x.val }) 2 2,undef,Value.pointer (some { block:=w.heap.size,off:=0 }),Value.slice (some ad) (2*m+1) c0_0,Value.int IntKind.i64 (2*(m:Int)+1),Value.int IntKind.i64 (2*(m:Int)+1),Value.bool false,Value.bool false,Value.int IntKind.i64 (2*(m:Int)+1),Value.int IntKind.i64 1,Value.bool false,Value.bool false,Value.bool false,Value.pointer (some { block:=w.heap.size,off:=0 }),Value.slice (some ad) (2*m+1) c0_0,Value.pointer (some ad),Value.int IntKind.i64 q,Value.int IntKind.i64 (2*(m:Int)+1),Value.int IntKind.i64 q,Value.bool false,Value.bool false,Value.bool false,Value.pointer (some { block:=w.heap.size,off:=1 }),Value.slice A0_1 0 c0_1,Value.int IntKind.i64 0,Value.bool false,Value.bool false,Value.bool false,Value.int IntKind.i64 (2*(m:Int)+1),Value.int IntKind.i64 q,Value.bool false,Value.bool false,Value.pointer (some { block:=w.heap.size,off:=0 }),Value.slice (some ad) (2*m+1) c0_0,Value.slice A1 (2*m) (c0_0 - 1),Value.func (Fn.func 91) #[] #[Value.pointer (some { block:=w.heap.size+1+1+1+1+1+1,off:=0 }),Value.pointer (some { block:=w.heap.size+1+1+1+1+1+1+1,off:=0 })],Value.slice (some { block:=ad.block,off:=ad.off+1+2*x.val }) 2 2,undef,undef,undef,undef,undef,undef,undef,undef,undef,undef,undef,undef,undef,undef,undef,undef,undef,undef,undef,undef,undef,undef,undef,undef,undef,undef,undef,undef,undef,undef,undef,undef,undef,undef,undef,undef,undef,undef,undef,undef,undef,undef,undef,undef,undef,undef,undef,undef],defers:=[] }) ?assign ?body ?done ?stop
 case assign =>
  intro l x W K hK
  gi_wp2
  exact hK
 case body =>
  rintro l pre x W ⟨hgd,h1,h2,h3,h4,⟨v,h5,h6⟩,h7,h8⟩ hlt
  have H8:=q5.mk h8
  clear h8
  have d1:1≤5 - 1 - 1:=by omega
  have hx:=x.isLt
  have hm:=HM.out
  have hC:=Kd.C_below HRR.out h7
  obtain⟨a,ha⟩:∃ a:Int,a=numA nums x.val:=⟨_,rfl⟩
  obtain⟨b,hb⟩:∃ b:Int,b=numB nums x.val:=⟨_,rfl⟩
  have ca:W.cell? ⟨ad.block,ad.off+1+2*x.val,none⟩=some (.int .i64 a):=by
   obtain⟨ad',e,hx'⟩:=Kd.at_int hC ((1+2*x.val:Nat):Int) (by omega) (by omega)
   cases e
   rw [Int.toNat_natCast] at hx'
   rw [ha]
   unfold numA
   rw [←hx']
   congr 1
   unfold Addr.add
   rw [if_neg (by omega)]
   simp [Nat.add_assoc]
  have cb:W.cell? ⟨ad.block,ad.off+1+2*x.val+1,none⟩=some (.int .i64 b):=by
   obtain⟨ad',e,hx'⟩:=Kd.at_int hC ((2+2*x.val:Nat):Int) (by omega) (by omega)
   cases e
   rw [Int.toNat_natCast] at hx'
   rw [hb]
   unfold numB
   rw [←hx']
   congr 1
   unfold Addr.add
   rw [if_neg (by omega)]
   simp [Nat.add_assoc]
  have HA:=q5.mk ha
  have HBb:=q5.mk hb
  have H1:=q5.mk h1
  have H2:=q5.mk h2
  have H3:=q5.mk h3
  have H4:=q5.mk h4
  have H5:=q5.mk h5
  have H6:=q5.mk h6
  have H7:=q5.mk h7
  have HG:=q5.mk hgd
  have c10:W.cell? ⟨w.heap.size+1,0,none⟩=some (.slice none 0 0):=(m0 h1 0).trans rfl
  have f10:=t0 h1 0
  have c20:W.cell? ⟨w.heap.size+1+1,0,none⟩=some (.int .i64 0):=(m0 h2 0).trans rfl
  have f20:=t0 h2 0
  generalize hz:Z8 nums pre=z at h3 h4 h6
  have HZ:=q5.mk hz
  have c30:W.cell? ⟨w.heap.size+1+1+1,0,none⟩=some v:=(m0 h5 0).trans rfl
  have f30:=t0 h5 0
  have c40:W.cell? ⟨w.heap.size+1+1+1+1,0,none⟩=some (.int .i64 z.2.1.f0):=(m0 h3 0).trans rfl
  have c41:W.cell? ⟨w.heap.size+1+1+1+1,1,none⟩=some (.int .i64 z.2.1.f1):=(m0 h3 1).trans rfl
  have f40:=t0 h3 0
  have f41:=t0 h3 1
  have c50:W.cell? ⟨w.heap.size+1+1+1+1+1,0,none⟩=some (.int .i64 z.2.2.f0):=(m0 h4 0).trans rfl
  have c51:W.cell? ⟨w.heap.size+1+1+1+1+1,1,none⟩=some (.int .i64 z.2.2.f1):=(m0 h4 1).trans rfl
  have f50:=t0 h4 0
  have f51:=t0 h4 1
  clear ha hb hz h1 h2 h3 h4 h5 h6 h7 hgd hC hm
  have calla:=fun W=>(callsIn_wide (n:=2)).2 (aR4 a W)
  have callb:=fun W=>(callsIn_wide (n:=2)).2 (aR4 b W)
  have CA:=q5.mk calla
  have CB:=q5.mk callb
  clear calla callb
  cases ga:inB a with
  |false =>
   have GA:=q5.mk ga
   gi_wp2_with (gi_at_call 86;refine(CallsIn.inRound l (CA.out _)).mono ?_;rintro e w' ⟨rfl,rfl⟩)
   exact cm1 w w' nums pre x (by unfold ae8;rw [←HA.out,GA.out];rfl) H1.out H2.out H7.out
  |true =>
   have GA:=q5.mk ga
   cases gb:inB b with
   |false =>
    have GB:=q5.mk gb
    gi_wp2_with (first
     |(gi_at_call 86;refine(CallsIn.inRound l (CA.out _)).mono ?_;rintro e w' ⟨rfl,rfl⟩;clear CA)
     |(gi_at_call 86;refine(CallsIn.inRound l (CB.out _)).mono ?_;rintro e w' ⟨rfl,rfl⟩))
    exact cm1 w w' nums pre x (by unfold ae8;rw [←HA.out,←HBb.out,GA.out,GB.out];rfl) H1.out H2.out H7.out
   |true =>
    have GB:=q5.mk gb
    gi_wp2_with (first
     |(gi_at_call 86;refine(CallsIn.inRound l (CA.out _)).mono ?_;rintro e w' ⟨rfl,rfl⟩;clear CA)
     |(gi_at_call 86;refine(CallsIn.inRound l (CB.out _)).mono ?_;rintro e w' ⟨rfl,rfl⟩))
    refine aL9 (fun V=>V.cell? ⟨ad.block,ad.off+1+2*x.val,none⟩=some (.int .i64 a)∧V.cell? ⟨ad.block,ad.off+1+2*x.val+1,none⟩=some (.int .i64 b)∧V.cell? ⟨w.heap.size+1+1+1+1+1,0,none⟩=some (.int .i64 z.2.2.f0)∧V.cell? ⟨w.heap.size+1+1+1+1+1,1,none⟩=some (.int .i64 z.2.2.f1)) (by kernel_rfl) ?_
    have hS:(w'.drew).cell? ⟨ad.block,ad.off+1+2*x.val,none⟩=some (.int .i64 a)∧(w'.drew).cell? ⟨ad.block,ad.off+1+2*x.val+1,none⟩=some (.int .i64 b)∧(w'.drew).cell? ⟨w.heap.size+1+1+1+1+1,0,none⟩=some (.int .i64 z.2.2.f0)∧(w'.drew).cell? ⟨w.heap.size+1+1+1+1+1,1,none⟩=some (.int .i64 z.2.2.f1):=⟨ca,cb,c50,c51⟩
    apply cL8
    case main =>
     intro hc
     go_simp
     (refine l5 (i:=0) (v:=.pointer (some ⟨w.heap.size+1+1+1+1+1,0,none⟩)) (by intro j o ho c;have:=List.mem_of_getElem? ((Array.getElem?_toList ..).trans ho);simp at this;rcases this with rfl|rfl|rfl|rfl|rfl|rfl|rfl|rfl|rfl|rfl|rfl|rfl|rfl|rfl|rfl<;>simp) rfl (by kernel_rfl) (by kernel_rfl) (by kernel_rfl) (fun _ _ _ h=>h) ⟨.inl ⟨by rfl,?_⟩,fun _=>rfl⟩ hS ?_;(focus (rintro w0 ⟨s1,s2,s3,s4⟩;go_simp;done));go_simp)
     (refine l5 (i:=1) (v:=.int .i64 z.2.2.f0) (by intro j o ho c;have:=List.mem_of_getElem? ((Array.getElem?_toList ..).trans ho);simp at this;rcases this with rfl|rfl|rfl|rfl|rfl|rfl|rfl|rfl|rfl|rfl|rfl|rfl|rfl|rfl|rfl<;>simp) rfl (by kernel_rfl) (by kernel_rfl) (by kernel_rfl) (fun _ _ _ h=>h) ⟨.inl ⟨by rfl,?_⟩,fun _=>rfl⟩ hS ?_;(focus (rintro w0 ⟨s1,s2,s3,s4⟩;go_simp;done));go_simp)
     (refine l5 (i:=2) (v:=.slice (some ⟨ad.block,ad.off+1+2*x.val,none⟩) 2 2) (by intro j o ho c;have:=List.mem_of_getElem? ((Array.getElem?_toList ..).trans ho);simp at this;rcases this with rfl|rfl|rfl|rfl|rfl|rfl|rfl|rfl|rfl|rfl|rfl|rfl|rfl|rfl|rfl<;>simp) rfl (by kernel_rfl) (by kernel_rfl) (by kernel_rfl) (fun _ _ _ h=>h) ⟨.inl ⟨by rfl,?_⟩,fun _=>rfl⟩ hS ?_;(focus (rintro w0 ⟨s1,s2,s3,s4⟩;go_simp;done));go_simp)
     (refine l5 (i:=3) (v:=.pointer (some ⟨ad.block,ad.off+1+2*x.val,none⟩)) (by intro j o ho c;have:=List.mem_of_getElem? ((Array.getElem?_toList ..).trans ho);simp at this;rcases this with rfl|rfl|rfl|rfl|rfl|rfl|rfl|rfl|rfl|rfl|rfl|rfl|rfl|rfl|rfl<;>simp) rfl (by kernel_rfl) (by kernel_rfl) (by kernel_rfl) (fun _ _ _ h=>h) ⟨.inl ⟨by rfl,?_⟩,fun _=>rfl⟩ hS ?_;(focus (rintro w0 ⟨s1,s2,s3,s4⟩;go_simp;done));go_simp)
     (refine l5 (i:=4) (v:=.int .i64 a) (by intro j o ho c;have:=List.mem_of_getElem? ((Array.getElem?_toList ..).trans ho);simp at this;rcases this with rfl|rfl|rfl|rfl|rfl|rfl|rfl|rfl|rfl|rfl|rfl|rfl|rfl|rfl|rfl<;>simp) rfl (by kernel_rfl) (by kernel_rfl) (by kernel_rfl) (fun _ _ _ h=>h) ⟨.inl ⟨by rfl,?_⟩,fun _=>rfl⟩ hS ?_;(focus (rintro w0 ⟨s1,s2,s3,s4⟩;go_simp;done));go_simp)
     (refine l5 (i:=5) (v:=.int .i64 (IntKind.i64.wrap (z.2.2.f0+a))) (by intro j o ho c;have:=List.mem_of_getElem? ((Array.getElem?_toList ..).trans ho);simp at this;rcases this with rfl|rfl|rfl|rfl|rfl|rfl|rfl|rfl|rfl|rfl|rfl|rfl|rfl|rfl|rfl<;>simp) rfl (by kernel_rfl) (by kernel_rfl) (by kernel_rfl) (fun _ _ _ h=>h) ⟨.inl ⟨by rfl,?_⟩,fun _=>rfl⟩ hS ?_;(focus (rintro w0 ⟨s1,s2,s3,s4⟩;go_simp;done));go_simp)
     (refine l5 (i:=6) (v:=.pointer (some ⟨w.heap.size+1+1+1+1+1,1,none⟩)) (by intro j o ho c;have:=List.mem_of_getElem? ((Array.getElem?_toList ..).trans ho);simp at this;rcases this with rfl|rfl|rfl|rfl|rfl|rfl|rfl|rfl|rfl|rfl|rfl|rfl|rfl|rfl|rfl<;>simp) rfl (by kernel_rfl) (by kernel_rfl) (by kernel_rfl) (fun _ _ _ h=>h) ⟨.inl ⟨by rfl,?_⟩,fun _=>rfl⟩ hS ?_;(focus (rintro w0 ⟨s1,s2,s3,s4⟩;go_simp;done));go_simp)
     (refine l5 (i:=7) (v:=.int .i64 z.2.2.f1) (by intro j o ho c;have:=List.mem_of_getElem? ((Array.getElem?_toList ..).trans ho);simp at this;rcases this with rfl|rfl|rfl|rfl|rfl|rfl|rfl|rfl|rfl|rfl|rfl|rfl|rfl|rfl|rfl<;>simp) rfl (by kernel_rfl) (by kernel_rfl) (by kernel_rfl) (fun _ _ _ h=>h) ⟨.inl ⟨by rfl,?_⟩,fun _=>rfl⟩ hS ?_;(focus (rintro w0 ⟨s1,s2,s3,s4⟩;go_simp;done));go_simp)
     (refine l5 (i:=8) (v:=.slice (some ⟨ad.block,ad.off+1+2*x.val,none⟩) 2 2) (by intro j o ho c;have:=List.mem_of_getElem? ((Array.getElem?_toList ..).trans ho);simp at this;rcases this with rfl|rfl|rfl|rfl|rfl|rfl|rfl|rfl|rfl|rfl|rfl|rfl|rfl|rfl|rfl<;>simp) rfl (by kernel_rfl) (by kernel_rfl) (by kernel_rfl) (fun _ _ _ h=>h) ⟨.inl ⟨by rfl,?_⟩,fun _=>rfl⟩ hS ?_;(focus (rintro w0 ⟨s1,s2,s3,s4⟩;go_simp;done));go_simp)
     (refine l5 (i:=9) (v:=.pointer (some ⟨ad.block,ad.off+1+2*x.val+1,none⟩)) (by intro j o ho c;have:=List.mem_of_getElem? ((Array.getElem?_toList ..).trans ho);simp at this;rcases this with rfl|rfl|rfl|rfl|rfl|rfl|rfl|rfl|rfl|rfl|rfl|rfl|rfl|rfl|rfl<;>simp) rfl (by kernel_rfl) (by kernel_rfl) (by kernel_rfl) (fun _ _ _ h=>h) ⟨.inl ⟨by rfl,?_⟩,fun _=>rfl⟩ hS ?_;(focus (rintro w0 ⟨s1,s2,s3,s4⟩;go_simp;done));go_simp)
     (refine l5 (i:=10) (v:=.int .i64 b) (by intro j o ho c;have:=List.mem_of_getElem? ((Array.getElem?_toList ..).trans ho);simp at this;rcases this with rfl|rfl|rfl|rfl|rfl|rfl|rfl|rfl|rfl|rfl|rfl|rfl|rfl|rfl|rfl<;>simp) rfl (by kernel_rfl) (by kernel_rfl) (by kernel_rfl) (fun _ _ _ h=>h) ⟨.inl ⟨by rfl,?_⟩,fun _=>rfl⟩ hS ?_;(focus (rintro w0 ⟨s1,s2,s3,s4⟩;go_simp;done));go_simp)
     (refine l5 (i:=11) (v:=.int .i64 (IntKind.i64.wrap (z.2.2.f1+b))) (by intro j o ho c;have:=List.mem_of_getElem? ((Array.getElem?_toList ..).trans ho);simp at this;rcases this with rfl|rfl|rfl|rfl|rfl|rfl|rfl|rfl|rfl|rfl|rfl|rfl|rfl|rfl|rfl<;>simp) rfl (by kernel_rfl) (by kernel_rfl) (by kernel_rfl) (fun _ _ _ h=>h) ⟨.inl ⟨by rfl,?_⟩,fun _=>rfl⟩ hS ?_;(focus (rintro w0 ⟨s1,s2,s3,s4⟩;go_simp;done));go_simp)
     (refine l5 (i:=12) (v:=.agg #[.int .i64 (IntKind.i64.wrap (z.2.2.f0+a)),.int .i64 (IntKind.i64.wrap (z.2.2.f1+b))]) (by intro j o ho c;have:=List.mem_of_getElem? ((Array.getElem?_toList ..).trans ho);simp at this;rcases this with rfl|rfl|rfl|rfl|rfl|rfl|rfl|rfl|rfl|rfl|rfl|rfl|rfl|rfl|rfl<;>simp) rfl (by kernel_rfl) (by kernel_rfl) (by kernel_rfl) (fun _ _ _ h=>h) ⟨.inl ⟨by rfl,?_⟩,fun _=>rfl⟩ hS ?_;(focus (rintro w0 ⟨s1,s2,s3,s4⟩;go_simp;done));go_simp)
     have ca':=fun o:Obj=>(World.cell?_alloc_lt w' o _ (World.block_lt_of_cell? w' _ ca)).trans ca
     have cb':=fun o:Obj=>(World.cell?_alloc_lt w' o _ (World.block_lt_of_cell? w' _ cb)).trans cb
     have c50':=fun o:Obj=>(World.cell?_alloc_lt w' o _ (World.block_lt_of_cell? w' _ c50)).trans c50
     have c51':=fun o:Obj=>(World.cell?_alloc_lt w' o _ (World.block_lt_of_cell? w' _ c51)).trans c51
     refine aE3 (i:=13) (by kernel_rfl) rfl rfl (fun K hK=>?_)
     go_simp
     refine hK _ _ ⟨ca' _,cb' _,c50' _,c51' _⟩ ?_
     clear hK K
     go_simp
     refine aE3 (i:=14) (by kernel_rfl) rfl rfl (fun K hK=>?_)
     go_simp
     refine hK _ _ ⟨ca' _,cb' _,c50' _,c51' _⟩ ?_
     clear hK K
     go_simp
     refine aX4 (by kernel_rfl) ?_ _
     exact hc
    case cont =>
     clear ca cb c50 c51 c10 f10 c20 f20 c30 f30 c40 c41 f40 f41 f50 f51 hS
     obtain⟨A,hA'⟩:∃ A:Int,A=IntKind.i64.wrap (z.2.2.f0+a):=⟨_,rfl⟩
     obtain⟨B,hB'⟩:∃ B:Int,B=IntKind.i64.wrap (z.2.2.f1+b):=⟨_,rfl⟩
     rw [←hA',←hB']
     have HA':=q5.mk hA'
     have HB':=q5.mk hB'
     clear hA' hB'
     obtain⟨V,hV⟩:∃ V:World,(w'.alloc (Obj.cells #[.int .i64 A,.int .i64 B] 67)).drew=V:=⟨_,rfl⟩
     have gV:w'.grownBy V none:=by rw [←hV];exact World.grownBy.trans (World.grownBy_alloc w' (Obj.cells #[.int .i64 A,.int .i64 B] 67) none) ⟨rfl,rfl,rfl,Nat.le_refl _,fun _ _ _=>rfl⟩
     obtain⟨N,hN⟩:∃ N:Nat,w'.heap.size=N:=⟨_,rfl⟩
     have bN:V.heap[N]?=some (.cells #[.int .i64 A,.int .i64 B] 67 (0,0)):=by rw [←hV,←hN];exact World.alloc_heap_new w' (Obj.cells #[.int .i64 A,.int .i64 B] 67)
     have sN:V.heap.size=N+1:=by rw [←hV,←hN];exact World.size_alloc w' (Obj.cells #[.int .i64 A,.int .i64 B] 67)
     have b1:=D5 H1.out gV (by simp)
     have b2:=D5 H2.out gV (by simp)
     have b3:=D5 H5.out gV (by simp)
     have b4:=D5 H3.out gV (by simp)
     have b5:=D5 H4.out gV (by simp)
     have lN:w.heap.size+1+1+1+1+1<N:=by rw [←hN];exact U6 H4.out
     rw [HZ.out] at b4 b5
     have n3:w.heap.size+1+1+1≠N:=by omega
     have n4:w.heap.size+1+1+1+1≠N:=by omega
     have n5:w.heap.size+1+1+1+1+1≠N:=by omega
     have m3:=n3.symm
     have m4:=n4.symm
     have m5:=n5.symm
     have GV:=q5.mk gV
     have SN:=q5.mk sN
     have LN:=q5.mk lN
     rw [hV,hN]
     have HN:=q5.mk hN
     clear hV gV hN sN lN
     have c30:V.cell? ⟨w.heap.size+1+1+1,0,none⟩=some (v):=(m0 b3 0).trans rfl
     have f30:=t0 b3 0
     have c40:V.cell? ⟨w.heap.size+1+1+1+1,0,none⟩=some (.int .i64 z.2.1.f0):=(m0 b4 0).trans rfl
     have f40:=t0 b4 0
     have c41:V.cell? ⟨w.heap.size+1+1+1+1,1,none⟩=some (.int .i64 z.2.1.f1):=(m0 b4 1).trans rfl
     have f41:=t0 b4 1
     have c50:V.cell? ⟨w.heap.size+1+1+1+1+1,0,none⟩=some (.int .i64 z.2.2.f0):=(m0 b5 0).trans rfl
     have f50:=t0 b5 0
     have c51:V.cell? ⟨w.heap.size+1+1+1+1+1,1,none⟩=some (.int .i64 z.2.2.f1):=(m0 b5 1).trans rfl
     have f51:=t0 b5 1
     have cN0:V.cell? ⟨N,0,none⟩=some (.int .i64 A):=(m0 bN 0).trans rfl
     have fN0:=t0 bN 0
     have cN1:V.cell? ⟨N,1,none⟩=some (.int .i64 B):=(m0 bN 1).trans rfl
     have fN1:=t0 bN 1
     have B1:=q5.mk b1
     have B2:=q5.mk b2
     have B3:=q5.mk b3
     have B4:=q5.mk b4
     have B5:=q5.mk b5
     have BN:=q5.mk bN
     clear b1 b2 b3 b4 b5 bN
     gi_wp2_with (
      gi_at_builtin
      refine bE2 k67 (w0:=w) w.heap.size rfl (.tmp 81) (.tmp 83) 65 67 (.agg #[.int .i64 0,.int .i64 0]) 16 rfl Try.underlying65 br5 rfl (by decide) (by decide) v z.1 (⟨wrap64 (z.2.1.f0+A),wrap64 (z.2.1.f1+B)⟩:S67) [.int .i64 (wrap64 (z.2.1.f0+A)),.int .i64 (wrap64 (z.2.1.f1+B))] (fun k=>w.heap.size+8≤k) (fun _=>False) rfl (by simp;rfl) (aU2 _ _ _ (⟨wrap64 (z.2.1.f0+A),wrap64 (z.2.1.f1+B)⟩:S67)) (fun _ h=>h.elim) ?fresh ?own ?bel ?base ?len ?_
      (case fresh=>intro k hk;have h1:=H8.out;have h2:=SN.out;have h3:=HN.out;simp at hk;omega)
      (case own=>have h:=H6.out;rw [HZ.out] at h;exact aK3 (aK3 (bP6 h GV.out (by simp)) _ _ (fun k hk=>by simp only;omega)) _ _ (fun k hk=>by simp only;omega))
      (case bel=>exact((H7.out.grown GV.out H7.out.size (by simp)).setCell (by simp only;omega) _).setCell (by simp only;omega) _)
      (case base=>have h1:=H8.out;have h2:=SN.out;have h3:=HN.out;simp;omega)
      (case len=>have h:=bY3 nums pre;rw [HZ.out] at h;omega)
      intro v1 w1 hr1 hb1 hg1 hat1
      go_loud (
       have hrow:∀ k,v.ownBlock=some k→w.heap.size+8≤k∧k<N∧∃ o,w'.heap[k]?=some o∧o.isCells=true:=by
        intro k hk
        obtain⟨h1,h2,h3,q,hq,cells,h4⟩:=(Kd.R_bound H6.out).1 k hk
        exact⟨h1,by rw [←HN.out];exact h3,_,h4,rfl⟩
       have no:∀ k,k<w.heap.size+8∨N≤k→some k≠v.ownBlock:=fun k hk e=>by
        have:=hrow k e.symm
        omega
       obtain⟨V2,hV2⟩:∃ V2:World,(V.setCell ⟨w.heap.size+1+1+1+1,0,none⟩ (.int .i64 (wrap64 (z.2.1.f0+A)))).setCell ⟨w.heap.size+1+1+1+1,1,none⟩ (.int .i64 (wrap64 (z.2.1.f1+B)))=V2:=⟨_,rfl⟩
       rw [hV2] at hg1 hat1
       have KV:KeepsOthers w' V2:=by rw [←hV2];exact((KeepsOthers.of_grownBy GV.out (by simp)).trans (KeepsOthers.setCell _ _ _)).trans (KeepsOthers.setCell _ _ _)
       have hV2o:∀ k,k≠w.heap.size+1+1+1+1→V2.heap[k]?=V.heap[k]?:=fun k hk=>by
        rw [←hV2]
        exact(Below.heap_setCell _ ⟨w.heap.size+1+1+1+1,1,none⟩ _ k hk).trans (Below.heap_setCell _ ⟨w.heap.size+1+1+1+1,0,none⟩ _ k hk)
       have hVo:∀ k,k<N→V.heap[k]?=w'.heap[k]?:=fun k hk=>GV.out.block k (by rw [HN.out];exact hk) (by simp)
       have s2:V2.heap.size=N+1:=by rw [←hV2];simpa using SN.out
       have ho:∀ k,k<w.heap.size+8∨N≤k→k<N+1→k≠w.heap.size+1+1+1+1→w1.heap[k]?=V.heap[k]?:=fun k hk hk2 hk4 =>
        (hg1.block k (by rw [s2];exact hk2) (no k hk)).trans (hV2o k hk4)
       have l8:=H8.out
       rw [HN.out] at l8
       have g1:=(ho _ (by omega) (by omega) (by omega)).trans B1.out
       have g2:=(ho _ (by omega) (by omega) (by omega)).trans B2.out
       have g3:=(ho _ (by omega) (by omega) (by omega)).trans B3.out
       have g5:=(ho _ (by omega) (by omega) (by omega)).trans B5.out
       have gN:=(ho _ (by omega) (by omega) (by omega)).trans BN.out
       have g4:w1.heap[w.heap.size+1+1+1+1]?=some (.cells #[.int .i64 (wrap64 (z.2.1.f0+A)),.int .i64 (wrap64 (z.2.1.f1+B))] 67 (0,0)):=by
        refine(hg1.block _ (by rw [s2];omega) (no _ (by omega))).trans ?_
        rw [←hV2]
        exact S8 (S8 B4.out 0 _) 1 _
       have g6:=(ho (w.heap.size+1+1+1+1+1+1) (by omega) (by omega) (by omega)).trans (hVo _ (by omega))
       have g7:=(ho (w.heap.size+1+1+1+1+1+1+1) (by omega) (by omega) (by omega)).trans (hVo _ (by omega))
       have K1:KeepsOthers w' w1:=KV.trans (KeepsOthers.of_grownBy hg1 (fun j o e hj=>by
        obtain⟨h1,h2,o',h3,h4⟩:=hrow j e
        rw [hV2o j (by omega),hVo j h2,h3] at hj
        injection hj with hj
        rw [←hj]
        exact h4))
       have s1:w.heap.size+8≤w1.heap.size:=by have:=hg1.size;omega
       have UN:=cx5 w w' w1 nums pre x A B (wrap64 (z.2.1.f0+A)) (wrap64 (z.2.1.f1+B)) v v1 (by rw [HZ.out,←HA.out];exact HA'.out.trans (IntWalk.i64_left _)) (by rw [HZ.out,←HBb.out];exact HB'.out.trans (IntWalk.i64_left _)) (by rw [HZ.out]) (by rw [HZ.out]) HG.out (by unfold ae8;rw [←HA.out,←HBb.out,GA.out,GB.out];rfl) K1 g1 g2 g3 g4 (by rw [HZ.out];exact g5) g6 g7 (by rw [HZ.out];exact hr1) hb1 s1
       rw [HZ.out] at UN
       have UNA:=q5.mk UN
       have e3:=t0 g3 0
       have e50:=t0 g5 0
       have e51:=t0 g5 1
       have e30:w1.cell? ⟨w.heap.size+1+1+1,0,none⟩=some v:=(m0 g3 0).trans rfl
       have du8:w1.cell? ⟨w.heap.size+1+1+1+1+1,0,none⟩=some (.int .i64 z.2.2.f0):=(m0 g5 0).trans rfl
       have cy2:w1.cell? ⟨w.heap.size+1+1+1+1+1,1,none⟩=some (.int .i64 z.2.2.f1):=(m0 g5 1).trans rfl
       have eN0:w1.cell? ⟨N,0,none⟩=some (.int .i64 A):=(m0 gN 0).trans rfl
       have eN1:w1.cell? ⟨N,1,none⟩=some (.int .i64 B):=(m0 gN 1).trans rfl
       obtain⟨A2,c2,hv1⟩:=Kd.R_slice hr1
       obtain⟨L,hL⟩:∃ L:Nat,L=(z.1++[(⟨wrap64 (z.2.1.f0+A),wrap64 (z.2.1.f1+B)⟩:S67)]).length:=⟨_,rfl⟩
       rw [←hL] at hv1
       have hLL:L=z.1.length+1:=by rw [hL];simp
       have LL:=q5.mk hLL
       clear hr1 hb1 hg1 hat1 hrow no hV2 KV hV2o hVo s2 ho l8 g1 g2 g3 g5 gN g4 g6 g7 K1 s1 UN hL hLL
       subst hv1)
      cases hd:decide (1<(L:Int)))
     all_goals (first
      |exact UNA.out.2 _ (by have:=LL.out;have:=of_decide_eq_true hd;omega) rfl
      |exact UNA.out.1 _ (by have:=LL.out;have:=of_decide_eq_false hd;omega) rfl)
 case done =>
  intro D xs W hDD hxs hI hK
  have HDD:=q5.mk hDD
  have hxs:xs=List.finRange m:=hxs
  subst hxs
  obtain⟨hgd,h1,h2,h3,h4,⟨v,h5,h6⟩,h7,h8⟩:=hI
  obtain⟨rc,hck,hr⟩:=HRES1.out (fun j=>hgd j (List.mem_finRange j))
  have c30:W.cell? ⟨w.heap.size+1+1+1,0,none⟩=some v:=(m0 h5 0).trans rfl
  have f10:=t0 h1 0
  have f20:=t0 h2 0
  obtain⟨A3,c3,hv,hc3,hC3⟩:=Kd.R_reads h6
  subst hv
  have callc:=(callsIn_wide (n:=4)).2 (q39.calls k A3 c3 _ rc W hC3 hc3 hck)
  have HCC:=q5.mk callc
  have H1:=q5.mk h1
  have H2:=q5.mk h2
  have H5:=q5.mk h5
  have H6:=q5.mk h6
  have H7:=q5.mk h7
  have H8:=q5.mk h8
  have HR:=q5.mk hr
  have HK:=q5.mk hK
  clear callc h1 h2 h3 h4 h5 h6 h7 h8 hC3 hc3 hck hr hK hgd f10 f20
  gi_wp2_with (gi_at_call 75;refine HCC.out.mono ?_;go_loud (
   rintro e W2 ⟨rfl,hB2⟩
   have g1:=(hB2.block _ (by have:=H8.out;omega)).trans H1.out
   have g2:=(hB2.block _ (by have:=H8.out;omega)).trans H2.out
   have g5:=(hB2.block _ (by have:=H8.out;omega)).trans H5.out
   have f10:=t0 g1 0
   have f20:=t0 g2 0
   have c10:W2.cell? ⟨w.heap.size+1,0,none⟩=some (.slice none 0 0):=(m0 g1 0).trans rfl
   have c20:W2.cell? ⟨w.heap.size+1+1,0,none⟩=some (.int .i64 0):=(m0 g2 0).trans rfl
   have c30:W2.cell? ⟨w.heap.size+1+1+1,0,none⟩=some _:=(m0 g5 0).trans rfl
   have g7:Below w.heap.size w W2:=H7.out.trans (hB2.mono (by have:=H8.out;omega))
   have gR:Kd.R k67 67 W2 w.heap.size (fun k=>w.heap.size+8≤k) (.slice A3 (Z8 nums (List.finRange m)).1.length c3) (Z8 nums (List.finRange m)).1 :=
    Kd.R_mono (Kd.R_move (Kd.R_bound H6.out) (fun k hk=>hB2.block k hk.2.2.1)) (fun _ hk=>hk.1)
   have gD:W2.heap[D]?=some (.deferred (some [])):=(hB2.block D (Array.getElem?_eq_some_iff.1 HK.out).1).trans HK.out
   have BN:=q5.mk (cq2 w W2 g1 g2 g7)
   have GN:=q5.mk (cb1 w W2 _ g1 g2 g7 _ gR)
   have GD:=q5.mk gD
   clear g1 g2 g5 hB2 g7 gR gD
   obtain⟨bb,hbb⟩:∃ bb:Bool,bb=(rc != 0):=⟨_,rfl⟩
   have HBB:=q5.mk hbb
   try rw [←hbb]
   clear hbb))
  all_goals (rename_i hcc;first
   |(have hrc:rc≠0:=by simpa using hcc
     obtain⟨k1,k2,k3,k4⟩:=BN.out _ rfl
     have hr:=HR.out
     rw [if_neg hrc] at hr
     obtain⟨rfl,rfl⟩:=Prod.mk.inj hr
     refine bl5 w _ [] 2 Q HQQ.out _ D (by have:=HDD.out;have:=HSZ.out;omega) (.slice none 0 0) rfl rfl k2 k3 (k1.same D _ GD.out rfl) (Kd.R_nil _ _ _ _ _) k4)
   |(have hrc:rc=0:=by simpa using hcc
     obtain⟨k1,k2,k3,k4,k5⟩:=GN.out _ rfl
     have hr:=HR.out
     rw [if_pos hrc] at hr
     obtain⟨rfl,rfl⟩:=Prod.mk.inj hr
     refine bl5 w _ _ 0 Q HQQ.out _ D (by have:=HDD.out;have:=HSZ.out;omega) _ rfl rfl k2 k3 (k1.same D _ GD.out rfl) k4 k5))
 case stop =>
  intro D c pre W hDD hpre hI hK
  obtain⟨rfl,⟨j,_,hj⟩,h1,h2,h7⟩:=hI
  have hr:=HRES2.out ⟨j,hj⟩
  obtain⟨rfl,rfl⟩:=Prod.mk.inj hr
  refine wpIn_ret ?_
  exact bl5 w W [] 2 Q HQQ.out _ D (by have:=HSZ.out;omega) (.slice none 0 0) rfl rfl h1 h2 hK (Kd.R_nil _ _ _ _ _) h7
set_option maxHeartbeats 4000000 in
theorem cx9 (A0_0:Option Addr) (c0_0:Nat) (n:Nat) (A0_1:Option Addr) (c0_1:Nat) (tl:Nat) (w:World)
  (hmax:n≤maxLen) (hn:n=0∨(∃ m,n=2*m+2)∨∃ m ad q,n=2*m+1∧A0_0=some ad∧w.cell? ad=some (.int .i64 q)∧(q≠m∨0<tl∨64<m)) :
  Calls Try.prog 73 #[.agg #[.slice A0_0 n c0_0,.slice A0_1 tl c0_1]] w fun e w'=>∃ v0_:Value,e=.returned (.tuple #[v0_,.int .i64 2])∧Kd.R k67 67 w' w.heap.size (fun _=>True) v0_ []∧Below w.heap.size w w':=by
 have hu29:=Try.underlying98
 have hu42:=Try.underlying67
 have done:∀ (o1 o2 o3:Obj),Kd.R k67 67 (((w.alloc o1).alloc o2).alloc o3) w.heap.size (fun _=>True) (.slice none 0 0) []∧Below w.heap.size w (((w.alloc o1).alloc o2).alloc o3):=fun o1 o2 o3 =>
  ⟨Kd.R_nil _ _ _ _ _,(((Below.refl _ w).alloc (Nat.le_refl _) _).alloc (by simp) _).alloc (by simp;omega) _⟩
 have DN:=q5.mk done
 clear done
 rcases hn with rfl|⟨m,rfl⟩|⟨m,ad,q,rfl,rfl,hc,hcase⟩
 ·go_enter Try.func73,Try.ntmps73
  go_wp2
  exact bodyPost_ret (v:=.tuple #[.slice none 0 0,.int .i64 2]) (by simp [results,Try.f73,go_sem]) rfl ⟨_,rfl,DN.out _ _ _⟩
 ·have t1:(2*(m:Int)+2 == 0)=false:=by simp;omega
  go_enter Try.func73,Try.ntmps73
  go_wp2
  exact bodyPost_ret (v:=.tuple #[.slice none 0 0,.int .i64 2]) (by simp [results,Try.f73,go_sem]) rfl ⟨_,rfl,DN.out _ _ _⟩
 ·have hlt:=World.block_lt_of_cell? w _ hc
  have hA:∀ o1 o2 o3,(((w.alloc o1).alloc o2).alloc o3).cell? ad=some (.int .i64 q):=fun o1 o2 o3=>by
   rw [World.cell?_alloc_lt _ _ _ (by simp;omega),World.cell?_alloc_lt _ _ _ (by simp;omega),World.cell?_alloc_lt _ _ _ hlt,hc]
  have hm:m≤4611686018427387903:=by simp only [maxLen] at hmax;omega
  clear hmax
  have t1:(2*(m:Int)+1 == 0)=false:=by simp;omega
  obtain⟨p,hp⟩:∃ p:Int,p=(m:Int):=⟨_,rfl⟩
  have t2:(2*(m:Int)+1) / 2=p:=by omega
  clear hc hlt
  by_cases hq:q=p
  ·subst hq
   have hcase:0<tl∨64<m:=by omega
   have HP:=q5.mk hp
   clear hp
   by_cases ht:0<tl
   ·have t3:decide (0<(tl:Int))=true:=by simp;omega
    clear hcase ht
    go_enter Try.func73,Try.ntmps73
    go_wp2
    all_goals exact bodyPost_ret (v:=.tuple #[.slice none 0 0,.int .i64 2]) (by simp [results,Try.f73,go_sem]) rfl ⟨_,rfl,DN.out _ _ _⟩
   ·have ht0:tl=0:=by omega
    subst ht0
    have t3:decide (64<q)=true:=by have:=HP.out;simp;omega
    clear hcase ht
    go_enter Try.func73,Try.ntmps73
    go_wp2
    all_goals exact bodyPost_ret (v:=.tuple #[.slice none 0 0,.int .i64 2]) (by simp [results,Try.f73,go_sem]) rfl ⟨_,rfl,DN.out _ _ _⟩
  ·have t3:(q != p)=true:=by simpa using hq
   have t4:(q == p)=false:=by simpa using hq
   clear hcase hp
   go_enter Try.func73,Try.ntmps73
   go_wp2
   all_goals exact bodyPost_ret (v:=.tuple #[.slice none 0 0,.int .i64 2]) (by simp [results,Try.f73,go_sem]) rfl ⟨_,rfl,DN.out _ _ _⟩
def q30.ok (nums:List Int) (texts:List ByteArray):Bool:=decide (nums.length % 2=1) && decide (rd nums 0=((nums.length / 2:Nat):Int)) && decide (texts.length=0) && decide (nums.length / 2≤64)
def q30.good (nums:List Int):Bool:=(List.finRange (nums.length / 2)).all fun j=>ae8 nums j.val
def q30.row (nums:List Int):List S67:=(Z8 nums (List.finRange (nums.length / 2))).1
def q30.f (k:Nat) (nums:List Int) (texts:List ByteArray):Option (List S67×Int) :=
 if nums.length≤maxLen then
  if q30.ok nums texts=true then
   if q30.good nums=true then(q39.f k (q30.row nums)).bind fun rc=>some (if rc=0 then(q30.row nums,0)else([],2))
   else some ([],2)
  else some ([],2)
 else none
theorem q30.mono:∀ a0 a1 k,LeO (q30.f k a0 a1) (q30.f (k+1) a0 a1):=by
 intro a0 a1 k r h
 unfold q30.f at h ⊢
 split at h
 ·rename_i h1
  rw [if_pos h1]
  split at h
  ·rename_i h2
   rw [if_pos h2]
   split at h
   ·rename_i h3
    rw [if_pos h3]
    obtain⟨rc,hc,he⟩:=Option.bind_eq_some_iff.1 h
    exact Option.bind_eq_some_iff.2 ⟨rc,q39.mono _ _ _ hc,he⟩
   ·rename_i h3
    rw [if_neg h3]
    exact h
  ·rename_i h2
   rw [if_neg h2]
   exact h
 ·cases h
theorem q30.calls (k:Nat) (A0_0:Option Addr) (c0_0:Nat) (l0_0:List Int) (A0_1:Option Addr) (c0_1:Nat) (l0_1:List ByteArray) (r1:List (S67)) (r2:Int) (w:World) (hr0_0:Kd.C (Kd.int .i64) w A0_0 l0_0.length l0_0) (hc0_0:l0_0.length≤c0_0) (hr0_1:Kd.C Kd.string w A0_1 l0_1.length l0_1) (hc0_1:l0_1.length≤c0_1) (h:q30.f k l0_0 l0_1=some (r1,r2)) :
  Calls Try.prog 73 #[.agg #[.slice A0_0 l0_0.length c0_0,.slice A0_1 l0_1.length c0_1]] w fun e w'=>∃ v0_:Value,e=.returned (.tuple #[v0_,.int .i64 r2])∧Kd.R k67 67 w' w.heap.size (fun _=>True) v0_ r1∧Below w.heap.size w w':=by
 unfold q30.f at h
 split at h
 case isFalse=>cases h
 rename_i hmax
 have cell0:0<l0_0.length→∃ ad,A0_0=some ad∧w.cell? ad=some (.int .i64 (rd l0_0 0)):=fun hp=>by
  obtain⟨ad,e1,hx⟩:=Kd.at_int hr0_0 0 (by omega) (by omega)
  exact⟨ad,e1,by simpa [Addr.add] using hx⟩
 split at h
 case isTrue hok =>
  unfold q30.ok at hok
  simp only [Bool.and_eq_true,decide_eq_true_eq] at hok
  obtain⟨⟨⟨h1,h2⟩,h3⟩,h4⟩:=hok
  obtain⟨ad,rfl,hc⟩:=cell0 (by omega)
  obtain⟨m,hm⟩:∃ m,m=l0_0.length / 2:=⟨_,rfl⟩
  have ht:l0_1=[]:=List.eq_nil_of_length_eq_zero h3
  refine cm2 k ad c0_0 l0_0 A0_1 c0_1 l0_1 w hr0_0 hc0_0 m (by omega) (by omega) (by rw [h2,hm]) ht r1 r2 ?_ ?_
  ·intro hall
   have hg:q30.good l0_0=true:=by
    unfold q30.good
    rw [←hm]
    exact List.all_eq_true.2 fun j _=>hall j
   rw [if_pos hg] at h
   obtain⟨rc,hck,he⟩:=Option.bind_eq_some_iff.1 h
   unfold q30.row at hck he
   rw [←hm] at hck he
   exact⟨rc,hck,(Option.some.inj he).symm⟩
  ·rintro⟨j,hj⟩
   have hg:¬ q30.good l0_0=true:=fun hg=>by
    unfold q30.good at hg
    rw [←hm] at hg
    have:=List.all_eq_true.1 hg j (List.mem_finRange j)
    rw [hj] at this
    cases this
   rw [if_neg hg] at h
   exact(Option.some.inj h).symm
 case isFalse hok =>
  obtain⟨rfl,rfl⟩:=Prod.mk.inj (Option.some.inj h)
  refine cx9 A0_0 c0_0 l0_0.length A0_1 c0_1 l0_1.length w hmax ?_
  rcases Nat.eq_zero_or_pos l0_0.length with hz|hp
  ·exact .inl hz
  ·rcases Nat.mod_two_eq_zero_or_one l0_0.length with h2|h2
   ·exact .inr (.inl ⟨l0_0.length / 2 - 1,by omega⟩)
   ·obtain⟨ad,e1,hc⟩:=cell0 hp
    refine .inr (.inr ⟨l0_0.length / 2,ad,_,by omega,e1,hc,?_⟩)
    unfold q30.ok at hok
    simp only [Bool.and_eq_true,decide_eq_true_eq] at hok
    by_cases q1:rd l0_0 0=((l0_0.length / 2:Nat):Int)
    ·by_cases q2:l0_1.length=0
     ·exact .inr (.inr (Nat.lt_of_not_le fun q3=>hok ⟨⟨⟨h2,q1⟩,q2⟩,q3⟩))
     ·exact .inr (.inl (Nat.pos_of_ne_zero q2))
    ·exact .inl q1
end Go.Proofs.Ytmddmbagehjdeaa.G
end
section
namespace Go.Proofs.Ytmddmbagehjdeaa.G
open Go.RowKit Go.Proofs.YtmddmbagehjdeaaX Go.Proofs.YtmddmbagehjdeaaW.PrintWords Go.Proofs.YtmddmbagehjdeaaW.PrintLast Go.Proofs.YtmddmbagehjdeaaW.PrintMore
attribute [local go_sem] S3 R3 R4 S4 P3 N3 D4 Y3
attribute [local go_sem high] dc2
def q16.j0:Nat→Bool→Int→Int→Int→List Int→Int→Option ((List (S67))×Int)
 |0,_,_,_,_,_,_=>none
 |k+1,x23,bX6,bT7,bS4,bW3,bV6=>if x23=true then(some (([]:List (S67)),2))else((q9.f k bX6 bT7 bS4 bW3 bV6).bind fun cC5=>(if cC5.2=true then((q30.f k cC5.1 ([]:List ByteArray)).bind fun cj1=>(if cj1.2=0 then((q35.f k cj1.1).bind fun bu3=>((q57.f k bu3.1 bu3.2.1 bu3.2.2.1 bu3.2.2.2.1 bu3.2.2.2.2.1 bX6 bT7 bS4 bW3 bV6).bind fun cV7=>(if cV7=true then(some (cj1.1,0))else(some (([]:List (S67)),2)))))else(some (([]:List (S67)),2))))else(some (([]:List (S67)),2))))
def q16.f (k:Nat) (a0_0:Int) (a0_1:Int) (a0_2:Int) (l0_3:List Int) (a0_4:Int):Option ((List (S67))×Int):=if a0_0<1 then(q16.j0 k true a0_0 a0_1 a0_2 l0_3 a0_4)else(if a0_0>64 then(q16.j0 k true a0_0 a0_1 a0_2 l0_3 a0_4)else((q25.f k l0_3 a0_4).bind fun ce3=>(q16.j0 k (ce3 != 0) a0_0 a0_1 a0_2 l0_3 a0_4)))
theorem q16.mono_l:∀ k,(∀ y0 y1 y2 y3 y4 y5,LeO (q16.j0 k y0 y1 y2 y3 y4 y5) (q16.j0 (k+1) y0 y1 y2 y3 y4 y5))
 |0=>fun _ _ _ _ _ _ r h=>by simp [q16.j0] at h
 |k+1=>by
  have ih0:=q16.mono_l k
  ·intro y0 y1 y2 y3 y4 y5
   unfold q16.j0
   repeat' first
   |(with_reducible exact ih0 _ _ _ _ _ _)
   |(with_reducible exact q25.mono _ _ _)
   |(with_reducible exact q30.mono _ _ _)
   |(with_reducible exact q35.mono _ _)
   |(with_reducible exact q57.mono _ _ _ _ _ _ _ _ _ _ _)
   |(with_reducible exact q9.mono _ _ _ _ _ _)
   |(with_reducible exact LeO.refl _)
   |(with_reducible exact LeO.none _)
   |(with_reducible refine LeO.ite ?_ ?_)
   |(with_reducible refine LeO.bind ?_ (fun _=>?_))
   |exact ih0 _ _ _ _ _ _
   |exact q25.mono _ _ _
   |exact q30.mono _ _ _
   |exact q35.mono _ _
   |exact q57.mono _ _ _ _ _ _ _ _ _ _ _
   |exact q9.mono _ _ _ _ _ _
   |exact LeO.none _
   |refine LeO.ite ?_ ?_
   |refine LeO.bind ?_ (fun _=>?_)
theorem q16.mono:∀ a0 a1 a2 a3 a4 k,LeO (q16.f k a0 a1 a2 a3 a4) (q16.f (k+1) a0 a1 a2 a3 a4):=by
 intro a0 a1 a2 a3 a4 k
 have ih0:=q16.mono_l k
 unfold q16.f
 repeat' first
   |(with_reducible exact ih0 _ _ _ _ _ _)
   |(with_reducible exact q25.mono _ _ _)
   |(with_reducible exact q30.mono _ _ _)
   |(with_reducible exact q35.mono _ _)
   |(with_reducible exact q57.mono _ _ _ _ _ _ _ _ _ _ _)
   |(with_reducible exact q9.mono _ _ _ _ _ _)
   |(with_reducible exact LeO.refl _)
   |(with_reducible exact LeO.none _)
   |(with_reducible refine LeO.ite ?_ ?_)
   |(with_reducible refine LeO.bind ?_ (fun _=>?_))
   |exact ih0 _ _ _ _ _ _
   |exact q25.mono _ _ _
   |exact q30.mono _ _ _
   |exact q35.mono _ _
   |exact q57.mono _ _ _ _ _ _ _ _ _ _ _
   |exact q9.mono _ _ _ _ _ _
   |exact LeO.none _
   |refine LeO.ite ?_ ?_
   |refine LeO.bind ?_ (fun _=>?_)
theorem q16.calls (k:Nat) (a0_0:Int) (a0_1:Int) (a0_2:Int) (A0_3:Option Addr) (c0_3:Nat) (l0_3:List Int) (a0_4:Int) (r1:List (S67)) (r2:Int) (w:World) (hr0_3:Kd.C (Kd.int .u8) w A0_3 l0_3.length l0_3) (hc0_3:l0_3.length≤c0_3) (h:q16.f k a0_0 a0_1 a0_2 l0_3 a0_4=some (r1,r2)) :
  Calls Try.prog 40 #[.agg #[.int .i64 a0_0,.int .i64 a0_1,.int .i64 a0_2,.slice A0_3 l0_3.length c0_3,.int .i64 a0_4]] w fun e w'=>∃ v0_:Value,e=.returned (.tuple #[v0_,.int .i64 r2])∧Kd.R k67 67 w' w.heap.size (fun _=>True) v0_ r1∧Below w.heap.size w w':=by
 have hu69:=Try.underlying69
 have hu25:=Try.underlying25
 have hu98:=Try.underlying98
 have HR0_3:=q5.mk hr0_3
 have HC0_3:=q5.mk hc0_3
 clear hr0_3 hc0_3
 have HB:=q5.mk (Below.refl w.heap.size w)
 have H:(if a0_0<1 then(q16.j0 k true a0_0 a0_1 a0_2 l0_3 a0_4)else(if a0_0>64 then(q16.j0 k true a0_0 a0_1 a0_2 l0_3 a0_4)else((q25.f k l0_3 a0_4).bind fun ce3=>(q16.j0 k (ce3 != 0) a0_0 a0_1 a0_2 l0_3 a0_4))))=some (r1,r2):=h
 clear h
 have HC2:=q5.mk H
 clear H
 go_enter Try.func40,Try.ntmps40
 go_upto_region 1 with(first|((with_reducible refine X0 (N:=1) rfl ?_);refine L2 1 #[.int .i64 a0_0,.int .i64 a0_1,.int .i64 a0_2,.slice A0_3 l0_3.length c0_3,.int .i64 a0_4] 69 ?_;intro av1 hg w3 hbox hb;have n_:=pk4 (E0 bl_ hb) (hbox) ((ge_ hg bl_:w.heap.size≤av1)) ((ge_ hg bl_:w.heap.size≤av1));clear HB;obtain⟨HB,Y5,ds4,ds2⟩:=n_;clear hb hbox hg))
 (try simp only [ap_,sb_,s0_,s1_])
 go_cut [23] (fun v23 wc=>∃ (kq:Nat) (x23_1:Bool),v23=.bool x23_1∧q5 (q16.j0 kq x23_1 a0_0 a0_1 a0_2 l0_3 a0_4=some (r1,r2))∧q5 (kq≤k)∧q5 (wc.heap[av1]?=some (.cells #[.int .i64 a0_0,.int .i64 a0_1,.int .i64 a0_2,(.slice A0_3 l0_3.length c0_3),.int .i64 a0_4] 69 (0,0)))∧q5 (Below w.heap.size w wc))
 case first =>
  have H:=HC2.out
  clear HC2
  replace H:=dle H
  rcases H with⟨c4b0,H⟩|⟨c4b0,H⟩
  focus
   (first|rw [c4b0]|(simp only [N0,P0];rw [c4b0])|skip)
   have H':=q5.mk H
   clear H
   obtain⟨hcz5_0,hcz5_1,hcz5_2,hcz5_3,hcz5_4,hfz5_0,hfz5_1,hfz5_2,hfz5_3,hfz5_4⟩:=X4 Y5.out
  rotate_left
  focus
   (first|rw [c4b0]|(simp only [N0,P0];rw [c4b0])|skip)
   replace H:=dgt H
   rcases H with⟨c6b0,H⟩|⟨c6b0,H⟩
   focus
    have H':=q5.mk H
    clear H
    obtain⟨hcz7_0,hcz7_1,hcz7_2,hcz7_3,hcz7_4,hfz7_0,hfz7_1,hfz7_2,hfz7_3,hfz7_4⟩:=X4 Y5.out
   rotate_left
   focus
    replace H:=N2 H
    obtain⟨ce3,A8,H⟩:=H
    try dsimp only at H
    have H':=q5.mk H
    clear H
    obtain⟨hcz9_0,hcz9_1,hcz9_2,hcz9_3,hcz9_4,hfz9_0,hfz9_1,hfz9_2,hfz9_3,hfz9_4⟩:=X4 Y5.out
  all_goals
   go_wp2_with (first|(go_at_call 58;(with_reducible refine(q25.calls k _ _ l0_3 a0_4 ce3 _ ?side1 ?side2 A8.out).mono ?_);(case side1=>exact cb_ HR0_3);(case side2=>exact HC0_3.out);rintro e U1 ⟨rfl,hb⟩;have n_:=pk2 (F0 (bo_ Y5) hb) (E0 bl_ hb);clear Y5 HB;obtain⟨Y5,HB⟩:=n_;(try clear hb)))
   go_meet
   first
    |case rel=>exact⟨_,(true),sm_,H',⟨om_⟩,⟨(bo_ Y5)⟩,⟨bl_⟩⟩
    |case rel=>exact⟨_,((ce3 != 0)),sm_,H',⟨om_⟩,⟨(bo_ Y5)⟩,⟨bl_⟩⟩
 case rest =>
  clear HC2
  obtain⟨kq,x23_1,rfl,HA,HJ1,Y5,HB⟩:=hcut
  cases kq with
  |zero=>exact absurd HA.out (by simp [q16.j0])
  |succ kj1 =>
   have H:=HA.out
   clear HA
   simp only [q16.j0] at H
   replace H:=Q7 H
   rcases H with⟨rfl,H⟩|⟨rfl,H⟩
   focus
    simp only [Option.some.injEq,Prod.mk.injEq] at H
    obtain⟨rfl,rfl⟩:=H
   rotate_left
   focus
    replace H:=N2 H
    obtain⟨⟨cu2,du2⟩,A12,H⟩:=H
    try dsimp only at H
    replace H:=Q7 H
    rcases H with⟨rfl,H⟩|⟨rfl,H⟩
    focus
     replace H:=N2 H
     obtain⟨⟨cO4,dl8⟩,A14,H⟩:=H
     try dsimp only at H
     replace H:=deqn H
     rcases H with⟨c15b0,c15b1,H⟩|⟨c15b0,c15b1,c15,H⟩
     focus
      replace H:=N2 H
      obtain⟨⟨an2,ap3,as8,au4,aH5,dl9⟩,A16,H⟩:=H
      try dsimp only at H
      replace H:=N2 H
      obtain⟨cV7,A17,H⟩:=H
      try dsimp only at H
      replace H:=Q7 H
      rcases H with⟨rfl,H⟩|⟨rfl,H⟩
      focus
       simp only [Option.some.injEq,Prod.mk.injEq] at H
       obtain⟨rfl,rfl⟩:=H
       obtain⟨hcz19_0,hcz19_1,hcz19_2,hcz19_3,hcz19_4,hfz19_0,hfz19_1,hfz19_2,hfz19_3,hfz19_4⟩:=X4 Y5.out
      rotate_left
      focus
       simp only [Option.some.injEq,Prod.mk.injEq] at H
       obtain⟨rfl,rfl⟩:=H
       obtain⟨hcz31_0,hcz31_1,hcz31_2,hcz31_3,hcz31_4,hfz31_0,hfz31_1,hfz31_2,hfz31_3,hfz31_4⟩:=X4 Y5.out
     rotate_left 2
     focus
      simp only [Option.some.injEq,Prod.mk.injEq] at H
      obtain⟨rfl,rfl⟩:=H
      obtain⟨hcz43_0,hcz43_1,hcz43_2,hcz43_3,hcz43_4,hfz43_0,hfz43_1,hfz43_2,hfz43_3,hfz43_4⟩:=X4 Y5.out
    rotate_left 3
    focus
     simp only [Option.some.injEq,Prod.mk.injEq] at H
     obtain⟨rfl,rfl⟩:=H
     obtain⟨hcz47_0,hcz47_1,hcz47_2,hcz47_3,hcz47_4,hfz47_0,hfz47_1,hfz47_2,hfz47_3,hfz47_4⟩:=X4 Y5.out
   all_goals
    go_wp2_with (first|((with_reducible refine C1 (f:=72) rfl ?_);refine goL_ (some 26) Try.func72 #[.agg #[.int .i64 a0_0,.int .i64 a0_1,.int .i64 a0_2,.slice A0_3 l0_3.length c0_3,.int .i64 a0_4]] ?_;(with_reducible refine(q9.calls kj1 a0_0 a0_1 a0_2 _ _ l0_3 a0_4 cu2 true _ ?side1 ?side2 A12.out).mono ?_);(case side1=>exact cb_ HR0_3);(case side2=>exact HC0_3.out);rintro e U1 ⟨M4,rfl,M0,hb⟩;refine⟨_,rfl,?_⟩;have n_:=pk3 (Kd.R_lower M0 (L0 bl_)) (F0 (bo_ Y5) hb) (E0 bl_ hb);clear Y5 HB;obtain⟨C0,Y5,HB⟩:=n_;(try clear hb M0);obtain⟨T0,R0,S1⟩:=Kd.R_slice C0.out;subst S1)|((with_reducible refine C1 (f:=72) rfl ?_);refine goL_ (some 26) Try.func72 #[.agg #[.int .i64 a0_0,.int .i64 a0_1,.int .i64 a0_2,.slice A0_3 l0_3.length c0_3,.int .i64 a0_4]] ?_;(with_reducible refine(q9.calls kj1 a0_0 a0_1 a0_2 _ _ l0_3 a0_4 cu2 false _ ?side1 ?side2 A12.out).mono ?_);(case side1=>exact cb_ HR0_3);(case side2=>exact HC0_3.out);rintro e U1 ⟨M4,rfl,M0,hb⟩;refine⟨_,rfl,?_⟩;have n_:=pk3 (Kd.R_lower M0 (L0 bl_)) (F0 (bo_ Y5) hb) (E0 bl_ hb);clear Y5 HB;obtain⟨C0,Y5,HB⟩:=n_;(try clear hb M0))|((with_reducible refine C1 (f:=73) rfl ?_);refine goL_ (some 34) Try.func73 #[.agg #[.slice T0 cu2.length R0,.slice none 0 0]] ?_;(refine(q30.calls kj1 _ _ cu2 _ _ ([]:List ByteArray) cO4 dl8 _ ?side1 ?side2 ?side3 ?side4 A14.out).mono ?_);(case side1=>exact cr_ C0);(case side2=>exact(Kd.R_reads' C0.out).2.1);(case side3=>exact Kd.C_nil _ _);(case side4=>exact Nat.le_refl _);rintro e Z1 ⟨z5,rfl,M0,hb⟩;refine⟨_,rfl,?_⟩;have n_:=pk4 (Kd.R_below (ro_ C0) hb) (Kd.R_lower M0 (L0 bl_)) (F0 (bo_ Y5) hb) (E0 bl_ hb);clear C0 Y5 HB;obtain⟨C0,Q0,Y5,HB⟩:=n_;(try clear hb M0);(try(obtain⟨X1,V1,U2⟩:=Kd.R_slice Q0.out;subst U2)))|((with_reducible refine C1 (f:=37) rfl ?_);refine goL_ (some 41) Try.func37 #[.slice X1 cO4.length V1] ?_;(with_reducible refine(q35.calls kj1 _ _ cO4 an2 ap3 as8 au4 aH5 dl9 _ ?side1 ?side2 A16.out).mono ?_);(case side1=>exact cr_ Q0);(case side2=>exact(Kd.R_reads' Q0.out).2.1);rintro e F2 ⟨ae1,rfl,M0,hb⟩;refine⟨_,rfl,?_⟩;have n_:=pk5 (Kd.R_below (ro_ C0) hb) (Kd.R_below (ro_ Q0) hb) (Kd.R_lower M0 (L0 bl_)) (F0 (bo_ Y5) hb) (E0 bl_ hb);clear C0 Q0 Y5 HB;obtain⟨C0,Q0,E1,Y5,HB⟩:=n_;(try clear hb M0))|((with_reducible refine X0 (N:=8) rfl ?_);refine L2 8 #[.int .i64 0,.int .i64 0,.int .i64 0,.slice none 0 0,.int .i64 0] 69 ?_;intro B0 hg X2 hbox hb;have n_:=pk10 (Kd.R_below (ro_ C0) hb) (Kd.R_below (ro_ Q0) hb) (Kd.R_below (ro_ E1) hb) (F0 (bo_ Y5) hb) (E0 bl_ hb) (hbox) ((ge_ hg bl_:w.heap.size≤B0)) ((ge_ hg bl_:w.heap.size≤B0)) ((nb_ hg (bo_ Y5):av1≠B0)) ((nc_ hg (bo_ Y5):B0≠av1));clear C0 Q0 E1 Y5 HB;obtain⟨C0,Q0,E1,Y5,HB,o0,C2,F5,Z7,bP2⟩:=n_;clear hb hbox hg;have V6:=bP2.out;have Z6:=Z7.out;have Y2:X2.cell? ⟨B0,0,none⟩=some (.int .i64 0):=(m0 o0.out 0).trans rfl;have z3:X2.cell? ⟨B0,1,none⟩=some (.int .i64 0):=(m0 o0.out 1).trans rfl;have V8:X2.cell? ⟨B0,2,none⟩=some (.int .i64 0):=(m0 o0.out 2).trans rfl;have P9:X2.cell? ⟨B0,3,none⟩=some (.slice none 0 0):=(m0 o0.out 3).trans rfl;have O9:X2.cell? ⟨B0,4,none⟩=some (.int .i64 0):=(m0 o0.out 4).trans rfl;have D3:=t0 o0.out 0;have Z2:=t0 o0.out 1;have l9:=t0 o0.out 2;have S9:=t0 o0.out 3;have R9:=t0 o0.out 4;obtain⟨F4,V3,n8⟩:=Kd.R_slice E1.out;subst n8;have z4:X2.cell? ⟨av1,0,none⟩=some (.int .i64 a0_0):=(m0 Y5.out 0).trans rfl;have C4:X2.cell? ⟨av1,1,none⟩=some (.int .i64 a0_1):=(m0 Y5.out 1).trans rfl;have E8:X2.cell? ⟨av1,2,none⟩=some (.int .i64 a0_2):=(m0 Y5.out 2).trans rfl;have s8:X2.cell? ⟨av1,3,none⟩=some (.slice A0_3 l0_3.length c0_3):=(m0 Y5.out 3).trans rfl;have r8:X2.cell? ⟨av1,4,none⟩=some (.int .i64 a0_4):=(m0 Y5.out 4).trans rfl;have j4:=t0 Y5.out 0;have Z3:=t0 Y5.out 1;have v8:=t0 Y5.out 2;have z8:=t0 Y5.out 3;have t8:=t0 Y5.out 4)|((with_reducible refine C1 (f:=57) rfl ?_);refine goL_ (some 46) Try.func57 #[.agg #[.int .i64 an2,.int .i64 ap3,.int .i64 as8,.slice F4 au4.length V3,.int .i64 aH5],.agg #[.int .i64 a0_0,.int .i64 a0_1,.int .i64 a0_2,.slice A0_3 l0_3.length c0_3,.int .i64 a0_4]] ?_;(with_reducible refine(q57.calls kj1 an2 ap3 as8 _ _ au4 aH5 a0_0 a0_1 a0_2 _ _ l0_3 a0_4 false _ ?side1 ?side2 ?side3 ?side4 A17.out).mono ?_);(case side1=>refine(Kd.R_reads' (e:=5) (base:=w.heap.size) (ok:=fun k_=>True) (n:=au4.length) (c:=V3) ?_).2.2;exact(rt_ ((Kd.R_mono (Kd.R_far (p:=⟨B0,4,none⟩) (Kd.R_far (p:=⟨B0,3,none⟩) (Kd.R_far (p:=⟨B0,2,none⟩) (Kd.R_far (p:=⟨B0,1,none⟩) (Kd.R_far (p:=⟨B0,0,none⟩) (Kd.R_types E1.out o0.out (by decide)) (fun _ hk=>hk.2) (.int .i64 an2)) (fun _ hk=>hk.2) (.int .i64 ap3)) (fun _ hk=>hk.2) (.int .i64 as8)) (fun _ hk=>hk.2) (.slice F4 au4.length V3)) (fun _ hk=>hk.2) (.int .i64 aH5)) (fun _ h_=>h_.1)))));(case side2=>exact(Kd.R_reads' E1.out).2.1);(case side3=>exact Kd.C_below HR0_3.out bl_);(case side4=>exact HC0_3.out);rintro e G4 ⟨rfl,hb⟩;refine⟨_,rfl,?_⟩;have n_:=pk6 (Kd.R_below (rt_ ((Kd.R_mono (Kd.R_far (p:=⟨B0,4,none⟩) (Kd.R_far (p:=⟨B0,3,none⟩) (Kd.R_far (p:=⟨B0,2,none⟩) (Kd.R_far (p:=⟨B0,1,none⟩) (Kd.R_far (p:=⟨B0,0,none⟩) (Kd.R_types C0.out o0.out (by decide)) (fun _ hk=>hk.2) (.int .i64 an2)) (fun _ hk=>hk.2) (.int .i64 ap3)) (fun _ hk=>hk.2) (.int .i64 as8)) (fun _ hk=>hk.2) (.slice F4 au4.length V3)) (fun _ hk=>hk.2) (.int .i64 aH5)) (fun _ h_=>h_.1)))) hb) (Kd.R_below (rt_ ((Kd.R_mono (Kd.R_far (p:=⟨B0,4,none⟩) (Kd.R_far (p:=⟨B0,3,none⟩) (Kd.R_far (p:=⟨B0,2,none⟩) (Kd.R_far (p:=⟨B0,1,none⟩) (Kd.R_far (p:=⟨B0,0,none⟩) (Kd.R_types Q0.out o0.out (by decide)) (fun _ hk=>hk.2) (.int .i64 an2)) (fun _ hk=>hk.2) (.int .i64 ap3)) (fun _ hk=>hk.2) (.int .i64 as8)) (fun _ hk=>hk.2) (.slice F4 au4.length V3)) (fun _ hk=>hk.2) (.int .i64 aH5)) (fun _ h_=>h_.1)))) hb) (Kd.R_below (rt_ ((Kd.R_mono (Kd.R_far (p:=⟨B0,4,none⟩) (Kd.R_far (p:=⟨B0,3,none⟩) (Kd.R_far (p:=⟨B0,2,none⟩) (Kd.R_far (p:=⟨B0,1,none⟩) (Kd.R_far (p:=⟨B0,0,none⟩) (Kd.R_types E1.out o0.out (by decide)) (fun _ hk=>hk.2) (.int .i64 an2)) (fun _ hk=>hk.2) (.int .i64 ap3)) (fun _ hk=>hk.2) (.int .i64 as8)) (fun _ hk=>hk.2) (.slice F4 au4.length V3)) (fun _ hk=>hk.2) (.int .i64 aH5)) (fun _ h_=>h_.1)))) hb) (F0 (g:=av1) (o:=.cells #[.int .i64 a0_0,.int .i64 a0_1,.int .i64 a0_2,.slice A0_3 l0_3.length c0_3,.int .i64 a0_4] 69 (0,0)) (by(with_reducible repeat(first|refine G0 ?_ _|refine J0 ?_|refine I0 ?_ _));refine Y0 ?_ Z7.out _;(with_reducible repeat(first|refine G0 ?_ _|refine J0 ?_|refine I0 ?_ _));refine Y0 ?_ Z7.out _;(with_reducible repeat(first|refine G0 ?_ _|refine J0 ?_|refine I0 ?_ _));refine Y0 ?_ Z7.out _;(with_reducible repeat(first|refine G0 ?_ _|refine J0 ?_|refine I0 ?_ _));refine Y0 ?_ Z7.out _;(with_reducible repeat(first|refine G0 ?_ _|refine J0 ?_|refine I0 ?_ _));refine Y0 ?_ Z7.out _;exact(bo_ Y5)) hb) (F0 (g:=B0) (o:=.cells #[.int .i64 an2,.int .i64 ap3,.int .i64 as8,.slice F4 au4.length V3,.int .i64 aH5] 69 (0,0)) (by(with_reducible repeat(first|refine G0 ?_ _|refine J0 ?_|refine I0 ?_ _));refine D1 (cs:=#[.int .i64 an2,.int .i64 ap3,.int .i64 as8,.slice F4 au4.length V3,.int .i64 0]) ?_ 4 _ rfl;(with_reducible repeat(first|refine G0 ?_ _|refine J0 ?_|refine I0 ?_ _));refine D1 (cs:=#[.int .i64 an2,.int .i64 ap3,.int .i64 as8,.slice none 0 0,.int .i64 0]) ?_ 3 _ rfl;(with_reducible repeat(first|refine G0 ?_ _|refine J0 ?_|refine I0 ?_ _));refine D1 (cs:=#[.int .i64 an2,.int .i64 ap3,.int .i64 0,.slice none 0 0,.int .i64 0]) ?_ 2 _ rfl;(with_reducible repeat(first|refine G0 ?_ _|refine J0 ?_|refine I0 ?_ _));refine D1 (cs:=#[.int .i64 an2,.int .i64 0,.int .i64 0,.slice none 0 0,.int .i64 0]) ?_ 1 _ rfl;(with_reducible repeat(first|refine G0 ?_ _|refine J0 ?_|refine I0 ?_ _));refine D1 (cs:=#[.int .i64 0,.int .i64 0,.int .i64 0,.slice none 0 0,.int .i64 0]) ?_ 0 _ rfl;exact(bo_ o0)) hb) (E0 bl_ hb);clear C0 Q0 E1 Y5 o0 HB;obtain⟨C0,Q0,E1,Y5,o0,HB⟩:=n_;(try clear hb))|((with_reducible refine C1 (f:=57) rfl ?_);refine goL_ (some 46) Try.func57 #[.agg #[.int .i64 an2,.int .i64 ap3,.int .i64 as8,.slice F4 au4.length V3,.int .i64 aH5],.agg #[.int .i64 a0_0,.int .i64 a0_1,.int .i64 a0_2,.slice A0_3 l0_3.length c0_3,.int .i64 a0_4]] ?_;(with_reducible refine(q57.calls kj1 an2 ap3 as8 _ _ au4 aH5 a0_0 a0_1 a0_2 _ _ l0_3 a0_4 true _ ?side1 ?side2 ?side3 ?side4 A17.out).mono ?_);(case side1=>refine(Kd.R_reads' (e:=5) (base:=w.heap.size) (ok:=fun k_=>True) (n:=au4.length) (c:=V3) ?_).2.2;exact(rt_ ((Kd.R_mono (Kd.R_far (p:=⟨B0,4,none⟩) (Kd.R_far (p:=⟨B0,3,none⟩) (Kd.R_far (p:=⟨B0,2,none⟩) (Kd.R_far (p:=⟨B0,1,none⟩) (Kd.R_far (p:=⟨B0,0,none⟩) (Kd.R_types E1.out o0.out (by decide)) (fun _ hk=>hk.2) (.int .i64 an2)) (fun _ hk=>hk.2) (.int .i64 ap3)) (fun _ hk=>hk.2) (.int .i64 as8)) (fun _ hk=>hk.2) (.slice F4 au4.length V3)) (fun _ hk=>hk.2) (.int .i64 aH5)) (fun _ h_=>h_.1)))));(case side2=>exact(Kd.R_reads' E1.out).2.1);(case side3=>exact Kd.C_below HR0_3.out bl_);(case side4=>exact HC0_3.out);rintro e G4 ⟨rfl,hb⟩;refine⟨_,rfl,?_⟩;have n_:=pk6 (Kd.R_below (rt_ ((Kd.R_mono (Kd.R_far (p:=⟨B0,4,none⟩) (Kd.R_far (p:=⟨B0,3,none⟩) (Kd.R_far (p:=⟨B0,2,none⟩) (Kd.R_far (p:=⟨B0,1,none⟩) (Kd.R_far (p:=⟨B0,0,none⟩) (Kd.R_types C0.out o0.out (by decide)) (fun _ hk=>hk.2) (.int .i64 an2)) (fun _ hk=>hk.2) (.int .i64 ap3)) (fun _ hk=>hk.2) (.int .i64 as8)) (fun _ hk=>hk.2) (.slice F4 au4.length V3)) (fun _ hk=>hk.2) (.int .i64 aH5)) (fun _ h_=>h_.1)))) hb) (Kd.R_below (rt_ ((Kd.R_mono (Kd.R_far (p:=⟨B0,4,none⟩) (Kd.R_far (p:=⟨B0,3,none⟩) (Kd.R_far (p:=⟨B0,2,none⟩) (Kd.R_far (p:=⟨B0,1,none⟩) (Kd.R_far (p:=⟨B0,0,none⟩) (Kd.R_types Q0.out o0.out (by decide)) (fun _ hk=>hk.2) (.int .i64 an2)) (fun _ hk=>hk.2) (.int .i64 ap3)) (fun _ hk=>hk.2) (.int .i64 as8)) (fun _ hk=>hk.2) (.slice F4 au4.length V3)) (fun _ hk=>hk.2) (.int .i64 aH5)) (fun _ h_=>h_.1)))) hb) (Kd.R_below (rt_ ((Kd.R_mono (Kd.R_far (p:=⟨B0,4,none⟩) (Kd.R_far (p:=⟨B0,3,none⟩) (Kd.R_far (p:=⟨B0,2,none⟩) (Kd.R_far (p:=⟨B0,1,none⟩) (Kd.R_far (p:=⟨B0,0,none⟩) (Kd.R_types E1.out o0.out (by decide)) (fun _ hk=>hk.2) (.int .i64 an2)) (fun _ hk=>hk.2) (.int .i64 ap3)) (fun _ hk=>hk.2) (.int .i64 as8)) (fun _ hk=>hk.2) (.slice F4 au4.length V3)) (fun _ hk=>hk.2) (.int .i64 aH5)) (fun _ h_=>h_.1)))) hb) (F0 (g:=av1) (o:=.cells #[.int .i64 a0_0,.int .i64 a0_1,.int .i64 a0_2,.slice A0_3 l0_3.length c0_3,.int .i64 a0_4] 69 (0,0)) (by(with_reducible repeat(first|refine G0 ?_ _|refine J0 ?_|refine I0 ?_ _));refine Y0 ?_ Z7.out _;(with_reducible repeat(first|refine G0 ?_ _|refine J0 ?_|refine I0 ?_ _));refine Y0 ?_ Z7.out _;(with_reducible repeat(first|refine G0 ?_ _|refine J0 ?_|refine I0 ?_ _));refine Y0 ?_ Z7.out _;(with_reducible repeat(first|refine G0 ?_ _|refine J0 ?_|refine I0 ?_ _));refine Y0 ?_ Z7.out _;(with_reducible repeat(first|refine G0 ?_ _|refine J0 ?_|refine I0 ?_ _));refine Y0 ?_ Z7.out _;exact(bo_ Y5)) hb) (F0 (g:=B0) (o:=.cells #[.int .i64 an2,.int .i64 ap3,.int .i64 as8,.slice F4 au4.length V3,.int .i64 aH5] 69 (0,0)) (by(with_reducible repeat(first|refine G0 ?_ _|refine J0 ?_|refine I0 ?_ _));refine D1 (cs:=#[.int .i64 an2,.int .i64 ap3,.int .i64 as8,.slice F4 au4.length V3,.int .i64 0]) ?_ 4 _ rfl;(with_reducible repeat(first|refine G0 ?_ _|refine J0 ?_|refine I0 ?_ _));refine D1 (cs:=#[.int .i64 an2,.int .i64 ap3,.int .i64 as8,.slice none 0 0,.int .i64 0]) ?_ 3 _ rfl;(with_reducible repeat(first|refine G0 ?_ _|refine J0 ?_|refine I0 ?_ _));refine D1 (cs:=#[.int .i64 an2,.int .i64 ap3,.int .i64 0,.slice none 0 0,.int .i64 0]) ?_ 2 _ rfl;(with_reducible repeat(first|refine G0 ?_ _|refine J0 ?_|refine I0 ?_ _));refine D1 (cs:=#[.int .i64 an2,.int .i64 0,.int .i64 0,.slice none 0 0,.int .i64 0]) ?_ 1 _ rfl;(with_reducible repeat(first|refine G0 ?_ _|refine J0 ?_|refine I0 ?_ _));refine D1 (cs:=#[.int .i64 0,.int .i64 0,.int .i64 0,.slice none 0 0,.int .i64 0]) ?_ 0 _ rfl;exact(bo_ o0)) hb) (E0 bl_ hb);clear C0 Q0 E1 Y5 o0 HB;obtain⟨C0,Q0,E1,Y5,o0,HB⟩:=n_;(try clear hb)))
    go_ret2
    first
     |exact⟨_,rf_,nl_,bl_⟩
     |exact⟨_,rf_,(ro_ Q0),bl_⟩
def q34.l0:Nat→List (S67)→List (S67)→Int→Option (Bool)
 |0,_,_,_=>none
 |k+1,x0,x1,x5=>if x5<(x0.length:Int)then(if 0≤x5 then(if x5<(x1.length:Int)then(if(!(((D0 x0 x5).f0) == ((D0 x1 x5).f0)) || (!(((D0 x0 x5).f1) == ((D0 x1 x5).f1))))=true then(some false)else(q34.l0 k x0 x1 (wrap64 (x5+1))))else(none))else(none))else(some true)
def q34.f (k:Nat) (l0:List (S67)) (l1:List (S67)):Option (Bool):=if(l0.length:Int)=(l1.length:Int)then(q34.l0 k l0 l1 0)else(some false)
theorem q34.mono_l:∀ k,(∀ y0 y1 y2,LeO (q34.l0 k y0 y1 y2) (q34.l0 (k+1) y0 y1 y2))
 |0=>fun _ _ _ r h=>by simp [q34.l0] at h
 |k+1=>by
  have ih0:=q34.mono_l k
  ·intro y0 y1 y2
   unfold q34.l0
   repeat' first
   |(with_reducible exact ih0 _ _ _)
   |(with_reducible exact LeO.refl _)
   |(with_reducible exact LeO.none _)
   |(with_reducible refine LeO.ite ?_ ?_)
   |(with_reducible refine LeO.bind ?_ (fun _=>?_))
   |exact ih0 _ _ _
   |exact LeO.none _
   |refine LeO.ite ?_ ?_
   |refine LeO.bind ?_ (fun _=>?_)
theorem q34.mono:∀ a0 a1 k,LeO (q34.f k a0 a1) (q34.f (k+1) a0 a1):=by
 intro a0 a1 k
 have ih0:=q34.mono_l k
 unfold q34.f
 repeat' first
   |(with_reducible exact ih0 _ _ _)
   |(with_reducible exact LeO.refl _)
   |(with_reducible exact LeO.none _)
   |(with_reducible refine LeO.ite ?_ ?_)
   |(with_reducible refine LeO.bind ?_ (fun _=>?_))
   |exact ih0 _ _ _
   |exact LeO.none _
   |refine LeO.ite ?_ ?_
   |refine LeO.bind ?_ (fun _=>?_)
theorem q34.calls (k:Nat) (A0:Option Addr) (c0:Nat) (l0:List (S67)) (A1:Option Addr) (c1:Nat) (l1:List (S67)) (r:Bool) (w:World) (hr0:Kd.C k67 w A0 l0.length l0) (hc0:l0.length≤c0) (hr1:Kd.C k67 w A1 l1.length l1) (hc1:l1.length≤c1) (h:q34.f k l0 l1=some r) :
  Calls Try.prog 42 #[.slice A0 l0.length c0,.slice A1 l1.length c1] w fun e w'=>e=.returned (.bool r)∧L1 w w':=by
 have hu67:=Try.underlying67
 have HR0:=q5.mk hr0
 have HC0:=q5.mk hc0
 clear hr0 hc0
 have HR1:=q5.mk hr1
 have HC1:=q5.mk hc1
 clear hr1 hc1
 have H:(if(l0.length:Int)=(l1.length:Int)then(q34.l0 k l0 l1 0)else(some false))=some r:=h
 clear h
 by_cases c3:(l0.length:Int)=(l1.length:Int)
 ·rw [if_pos c3] at H
  have c3b0:((l0.length:Int) == (l1.length:Int))=true:=beq_iff_eq.mpr c3
  have c3b1:((l0.length:Int) != (l1.length:Int))=false:=bne_eq_false_iff_eq.mpr c3
  have c3b2:(l0.length == l1.length)=true:=by first|simpa using c3|(simp at c3 ⊢;omega)
  clear c3
  have H':=q5.mk H
  clear H
  go_enter Try.func42,Try.ntmps42
  go_wp2
  repeat(go_quiet (fail);try go_wp2)
  go_loopg [5] k (fun kq v5 w'=>∃ (x5_1:Int),v5=.int .i64 x5_1∧q5 (q34.l0 kq l0 l1 x5_1=some r)∧q5 (kq≤k)∧L1 w w')
  case atStart=>exact⟨(0),sm_,H',⟨Nat.le_refl _⟩,by repeat(first|exact L1.refl _|apply L1.step)⟩
  case round =>
   clear H'
   try clear c3
   try clear c3b0
   try clear c3b1
   try clear c3b2
   obtain⟨x5_1,rfl,HA,HK1,⟨m1,rfl⟩⟩:=hrel
   cases gk with
   |zero=>exact absurd HA.out (by simp [q34.l0])
   |succ k1 =>
    have H:=HA.out
    clear HA
    simp only [q34.l0] at H
    replace H:=dle H
    rcases H with⟨c4b0,H⟩|⟨c4b0,H⟩
    focus
     replace H:=dle H
     rcases H with⟨c5b0,H⟩|⟨c5b0,H⟩
     rotate_left
     ·exact absurd H (by simp)
     replace H:=dle H
     rcases H with⟨c6b0,H⟩|⟨c6b0,H⟩
     rotate_left
     ·exact absurd H (by simp)
     by_cases c7:(!(((D0 l0 x5_1).f0) == ((D0 l1 x5_1).f0)) || (!(((D0 l0 x5_1).f1) == ((D0 l1 x5_1).f1))))=true
     focus
      rw [if_pos c7] at H
      have c7b0:(!(((D0 l0 x5_1).f0) == ((D0 l1 x5_1).f0)) || (!(((D0 l0 x5_1).f1) == ((D0 l1 x5_1).f1))))=true:=c7
      clear c7
      obtain rfl:=Option.some.inj H
      have bR7:0≤(x5_1:Int):=dc_
      have bK4:x5_1<(l0.length:Int):=dc_
      obtain⟨cT9,cy2,cu4,cy3⟩:=R2 HR0.out x5_1 bR7 bK4
      cases cy2
      replace bR7:=eq_true bR7
      replace bK4:=eq_true bK4
      have bJ1:0≤(x5_1:Int):=dc_
      have bN4:x5_1<(l1.length:Int):=dc_
      obtain⟨db0,cH9,ct1,cx3⟩:=R2 HR1.out x5_1 bJ1 bN4
      cases cH9
      replace bJ1:=eq_true bJ1
      replace bN4:=eq_true bN4
     rotate_left
     focus
      rw [if_neg c7] at H
      have c7b0:(!(((D0 l0 x5_1).f0) == ((D0 l1 x5_1).f0)) || (!(((D0 l0 x5_1).f1) == ((D0 l1 x5_1).f1))))=false:=by simpa using c7
      clear c7
      have H':=q5.mk H
      clear H
      have bR7:0≤(x5_1:Int):=dc_
      have bK4:x5_1<(l0.length:Int):=dc_
      obtain⟨cT9,cy2,cu4,cy3⟩:=R2 HR0.out x5_1 bR7 bK4
      cases cy2
      replace bR7:=eq_true bR7
      replace bK4:=eq_true bK4
      have bJ1:0≤(x5_1:Int):=dc_
      have bN4:x5_1<(l1.length:Int):=dc_
      obtain⟨db0,cH9,ct1,cx3⟩:=R2 HR1.out x5_1 bJ1 bN4
      cases cH9
      replace bJ1:=eq_true bJ1
      replace bN4:=eq_true bN4
    rotate_left 2
    focus
     obtain rfl:=Option.some.inj H
    all_goals
     go_wp2
     repeat(go_quiet (fail);try go_wp2)
     first
      |go_ret
       exact⟨by first|rfl|(simp;done)|(simp [*];done),by repeat(first|exact L1.refl _|apply L1.step)⟩
      |go_roundg k1
       case measure=>have:=HK1.out;omega
       case rel=>exact⟨(wrap64 (x5_1+1)),sm_,H',⟨by have:=HK1.out;omega⟩,by repeat(first|exact L1.refl _|apply L1.step)⟩
 rw [if_neg c3] at H
 have c3b0:((l0.length:Int) == (l1.length:Int))=false:=beq_eq_false_iff_ne.mpr c3
 have c3b1:((l0.length:Int) != (l1.length:Int))=true:=bne_iff_ne.mpr c3
 have c3b2:(l0.length == l1.length)=false:=by first|simpa using c3|(simp at c3 ⊢;omega)
 obtain rfl:=Option.some.inj H
 go_enter Try.func42,Try.ntmps42
 go_wp2
 repeat(go_quiet (fail);try go_wp2)
 go_ret
 exact⟨by first|rfl|(simp;done)|(simp [*];done),by repeat(first|exact L1.refl _|apply L1.step)⟩
def q21.l0:Nat→List (S67)→Int→Option (Bool)
 |0,_,_=>none
 |k+1,x1,x2=>if x2<5 then(if x1.length<8796093022208 then(q21.l0 k (x1++[(⟨wrap64 (10*x2),3⟩:S67)]) (wrap64 (x2+1)))else(none))else((q35.f k x1).bind fun aJ9=>((q16.f k aJ9.1 aJ9.2.1 aJ9.2.2.1 aJ9.2.2.2.1 aJ9.2.2.2.2.1).bind fun cB3=>(if aJ9.2.2.2.2.2=0 then(if cB3.2=0 then(if aJ9.1=5 then(if aJ9.2.2.1=40 then(if aJ9.2.2.2.2.1=26 then((q34.f k cB3.1 x1).bind fun cG8=>(some cG8))else(some false))else(some false))else(some false))else(some false))else(some false))))
def q21.f (k:Nat) :Option (Bool):=q21.l0 k (([]:List (S67))) 0
theorem q21.mono_l:∀ k,(∀ y0 y1,LeO (q21.l0 k y0 y1) (q21.l0 (k+1) y0 y1))
 |0=>fun _ _ r h=>by simp [q21.l0] at h
 |k+1=>by
  have ih0:=q21.mono_l k
  ·intro y0 y1
   unfold q21.l0
   repeat' first
   |(with_reducible exact ih0 _ _)
   |(with_reducible exact q35.mono _ _)
   |(with_reducible exact q16.mono _ _ _ _ _ _)
   |(with_reducible exact q34.mono _ _ _)
   |(with_reducible exact LeO.refl _)
   |(with_reducible exact LeO.none _)
   |(with_reducible refine LeO.ite ?_ ?_)
   |(with_reducible refine LeO.bind ?_ (fun _=>?_))
   |exact ih0 _ _
   |exact q35.mono _ _
   |exact q16.mono _ _ _ _ _ _
   |exact q34.mono _ _ _
   |exact LeO.none _
   |refine LeO.ite ?_ ?_
   |refine LeO.bind ?_ (fun _=>?_)
theorem q21.mono:∀ k,LeO (q21.f k ) (q21.f (k+1) ):=by
 intro  k
 have ih0:=q21.mono_l k
 unfold q21.f
 repeat' first
   |(with_reducible exact ih0 _ _)
   |(with_reducible exact q35.mono _ _)
   |(with_reducible exact q16.mono _ _ _ _ _ _)
   |(with_reducible exact q34.mono _ _ _)
   |(with_reducible exact LeO.refl _)
   |(with_reducible exact LeO.none _)
   |(with_reducible refine LeO.ite ?_ ?_)
   |(with_reducible refine LeO.bind ?_ (fun _=>?_))
   |exact ih0 _ _
   |exact q35.mono _ _
   |exact q16.mono _ _ _ _ _ _
   |exact q34.mono _ _ _
   |exact LeO.none _
   |refine LeO.ite ?_ ?_
   |refine LeO.bind ?_ (fun _=>?_)
theorem q21.calls (k:Nat)  (r:Bool) (w:World) (h:q21.f k =some r) :
  Calls Try.prog 36 #[] w fun e w'=>e=.returned (.bool r)∧Below w.heap.size w w':=by
 have hu67:=Try.underlying67
 have hu69:=Try.underlying69
 have HB:=q5.mk (Below.refl w.heap.size w)
 have H:(q21.l0 k (([]:List (S67))) 0)=some r:=h
 clear h
 obtain⟨df2,bv6⟩:∃ y_:List (S67),y_=(([]:List (S67))):=⟨_,rfl⟩
 replace H:(q21.l0 k df2 0)=some r:=by first|(rw [bv6];with_reducible exact H)|(have H2_:=(Option.bind_some _ _).symm.trans H;rw [bv6];with_reducible exact H2_)|(have H2_:=(Option.bind_some _ _).symm.trans H;with_reducible exact H2_)|with_reducible exact H|(rw [bv6];exact H)|exact H
 have cE3:=q5.mk bv6
 clear bv6
 have H':=q5.mk H
 clear H
 go_enter Try.func36,Try.ntmps36
 go_wp2_with (first|((with_reducible refine X0 (N:=7) rfl ?_);refine Kd.R_lit k67 _ 67 ?hg (N:=7) ?hd (xs:=([]:List (S67))) (inner:=[]) (ok:=fun _=>True) (okp:=fun _=>True) ?hr ?hp (fun _ hk=>hk) trivial (Below.refl _ _) (Nat.le_refl _) (by simp) ?_;(case hd=>rfl);(case hg=>rfl);(case hr=>first|(go_simp;done)|(go_simp;rfl));(case hp=>exact(Reps.none _ _));intro dt8 w1 ho2 hb hg_ hnew_;clear hg_ hnew_;(first|rw [←cE3.out] at ho2|(simp only [Int.reduceToNat] at ho2;rw [←cE3.out] at ho2));have n_:=pk2 (Kd.R_lower ho2 (L0 bl_)) (E0 bl_ hb);clear HB;obtain⟨cX0,HB⟩:=n_;clear hb ho2))
 go_loopg [1,2] k (fun kq v1 v2 w'=>∃ (x1_1:List (S67)) (x2_1:Int),v2=.int .i64 x2_1∧q5 (q21.l0 kq x1_1 x2_1=some r)∧q5 (kq≤k)∧q5 (Kd.R k67 67 w' w.heap.size (fun _=>True) v1 x1_1)∧q5 (Below w.heap.size w w'))
 case atStart=>exact⟨(df2),(0),sm_,H',⟨Nat.le_refl _⟩,⟨(ro_ cX0)⟩,⟨bl_⟩⟩
 case round =>
  clear H'
  obtain⟨x1_1,x2_1,rfl,HA,HK1,HO_1,HB⟩:=hrel
  cases gk with
  |zero=>exact absurd HA.out (by simp [q21.l0])
  |succ k1 =>
   have H:=HA.out
   clear HA
   simp only [q21.l0] at H
   replace H:=dle H
   rcases H with⟨c3b0,H⟩|⟨c3b0,H⟩
   focus
    by_cases c4:x1_1.length<8796093022208
    rotate_left
    ·rw [if_neg c4] at H
     exact absurd H (by simp)
    rw [if_pos c4] at H
    have LMc4:=q5.mk c4
    clear c4
    obtain⟨de6,bD0⟩:∃ y_:List (S67),y_=(x1_1++[(⟨wrap64 (10*x2_1),3⟩:S67)]):=⟨_,rfl⟩
    replace H:(q21.l0 k1 de6 (wrap64 (x2_1+1)))=some r:=by first|(rw [bD0];with_reducible exact H)|(have H2_:=(Option.bind_some _ _).symm.trans H;rw [bD0];with_reducible exact H2_)|(have H2_:=(Option.bind_some _ _).symm.trans H;with_reducible exact H2_)|with_reducible exact H|(rw [bD0];exact H)|exact H
    have da1:=q5.mk bD0
    clear bD0
    have H':=q5.mk H
    clear H
   rotate_left
   focus
    replace H:=N2 H
    obtain⟨⟨ar9,av6,ax2,av8,aG4,cb8⟩,A6,H⟩:=H
    try dsimp only at H
    replace H:=N2 H
    obtain⟨⟨de5,dj1⟩,A7,H⟩:=H
    try dsimp only at H
    replace H:=deqn H
    rcases H with⟨c8b0,c8b1,H⟩|⟨c8b0,c8b1,c8,H⟩
    focus
     replace H:=deqn H
     rcases H with⟨c9b0,c9b1,H⟩|⟨c9b0,c9b1,c9,H⟩
     focus
      replace H:=deqn H
      rcases H with⟨c10b0,c10b1,H⟩|⟨c10b0,c10b1,c10,H⟩
      focus
       replace H:=deqn H
       rcases H with⟨c11b0,c11b1,H⟩|⟨c11b0,c11b1,c11,H⟩
       focus
        replace H:=deqn H
        rcases H with⟨c12b0,c12b1,H⟩|⟨c12b0,c12b1,c12,H⟩
        focus
         replace H:=N2 H
         obtain⟨cG8,A13,H⟩:=H
         try dsimp only at H
         obtain rfl:=Option.some.inj H
         obtain⟨Ao14,co14,eo14⟩:=Kd.R_slice HO_1.out
         subst eo14
        rotate_left
        focus
         obtain rfl:=Option.some.inj H
         obtain⟨Ao22,co22,eo22⟩:=Kd.R_slice HO_1.out
         subst eo22
       rotate_left 2
       focus
        obtain rfl:=Option.some.inj H
        obtain⟨Ao29,co29,eo29⟩:=Kd.R_slice HO_1.out
        subst eo29
      rotate_left 3
      focus
       obtain rfl:=Option.some.inj H
       obtain⟨Ao36,co36,eo36⟩:=Kd.R_slice HO_1.out
       subst eo36
     rotate_left 4
     focus
      obtain rfl:=Option.some.inj H
      obtain⟨Ao43,co43,eo43⟩:=Kd.R_slice HO_1.out
      subst eo43
    rotate_left 5
    focus
     obtain rfl:=Option.some.inj H
     obtain⟨Ao49,co49,eo49⟩:=Kd.R_slice HO_1.out
     subst eo49
   all_goals
    go_wp2_with (first|((with_reducible refine G1 (b:=.append) (xs:=#[.tmp 12,.tmp 16]) rfl ?_);at_builtin;refine Kd.R_append k67 (w0:=w) w.heap.size rfl (.tmp 12) (.tmp 16) 65 67 (.agg #[(.int .i64 0),(.int .i64 0)]) 16 rfl Try.underlying65 br5 rfl (by decide) (by omega) u1 x1_1 (⟨wrap64 (10*x2_1),3⟩:S67) [.int .i64 (wrap64 (10*x2_1)),.int .i64 3] (fun _=>True) (fun _=>False) rfl rfl ?aP (fun _ hk=>hk.elim) ?aF ?aO ?aB ?aS ?aL ?_;(case aP=>exact aU2 _ _ _ (⟨wrap64 (10*x2_1),3⟩:S67));(case aB=>exact bl_);(case aF=>exact(fun _ _=>trivial));(case aO=>exact(ro_ HO_1));(case aS=>exact(L0 bl_));(case aL=>have:=LMc4.out;omega);intro M4 U1 ho hb hg hat;rw [←da1.out] at ho;have n_:=pk2 (hb) (ho);clear HB HO_1;obtain⟨HB,C0⟩:=n_;clear ho hb hg hat)|((with_reducible refine C1 (f:=37) rfl ?_);refine goL_ (some 20) Try.func37 #[.slice Ao14 x1_1.length co14] ?_;(with_reducible refine(q35.calls k1 _ _ x1_1 ar9 av6 ax2 av8 aG4 cb8 _ ?side1 ?side2 A6.out).mono ?_);(case side1=>exact cr_ HO_1);(case side2=>exact(Kd.R_reads' HO_1.out).2.1);rintro e U1 ⟨M4,rfl,M0,hb⟩;refine⟨_,rfl,?_⟩;have n_:=pk3 (Kd.R_below (ro_ HO_1) hb) (Kd.R_lower M0 (L0 bl_)) (E0 bl_ hb);clear HO_1 HB;obtain⟨HO_1,C0,HB⟩:=n_;(try clear hb M0))|((with_reducible refine C1 (f:=37) rfl ?_);refine goL_ (some 20) Try.func37 #[.slice Ao22 x1_1.length co22] ?_;(with_reducible refine(q35.calls k1 _ _ x1_1 ar9 av6 ax2 av8 aG4 cb8 _ ?side1 ?side2 A6.out).mono ?_);(case side1=>exact cr_ HO_1);(case side2=>exact(Kd.R_reads' HO_1.out).2.1);rintro e U1 ⟨M4,rfl,M0,hb⟩;refine⟨_,rfl,?_⟩;have n_:=pk3 (Kd.R_below (ro_ HO_1) hb) (Kd.R_lower M0 (L0 bl_)) (E0 bl_ hb);clear HO_1 HB;obtain⟨HO_1,C0,HB⟩:=n_;(try clear hb M0))|((with_reducible refine C1 (f:=37) rfl ?_);refine goL_ (some 20) Try.func37 #[.slice Ao29 x1_1.length co29] ?_;(with_reducible refine(q35.calls k1 _ _ x1_1 ar9 av6 ax2 av8 aG4 cb8 _ ?side1 ?side2 A6.out).mono ?_);(case side1=>exact cr_ HO_1);(case side2=>exact(Kd.R_reads' HO_1.out).2.1);rintro e U1 ⟨M4,rfl,M0,hb⟩;refine⟨_,rfl,?_⟩;have n_:=pk3 (Kd.R_below (ro_ HO_1) hb) (Kd.R_lower M0 (L0 bl_)) (E0 bl_ hb);clear HO_1 HB;obtain⟨HO_1,C0,HB⟩:=n_;(try clear hb M0))|((with_reducible refine C1 (f:=37) rfl ?_);refine goL_ (some 20) Try.func37 #[.slice Ao36 x1_1.length co36] ?_;(with_reducible refine(q35.calls k1 _ _ x1_1 ar9 av6 ax2 av8 aG4 cb8 _ ?side1 ?side2 A6.out).mono ?_);(case side1=>exact cr_ HO_1);(case side2=>exact(Kd.R_reads' HO_1.out).2.1);rintro e U1 ⟨M4,rfl,M0,hb⟩;refine⟨_,rfl,?_⟩;have n_:=pk3 (Kd.R_below (ro_ HO_1) hb) (Kd.R_lower M0 (L0 bl_)) (E0 bl_ hb);clear HO_1 HB;obtain⟨HO_1,C0,HB⟩:=n_;(try clear hb M0))|((with_reducible refine C1 (f:=37) rfl ?_);refine goL_ (some 20) Try.func37 #[.slice Ao43 x1_1.length co43] ?_;(with_reducible refine(q35.calls k1 _ _ x1_1 ar9 av6 ax2 av8 aG4 cb8 _ ?side1 ?side2 A6.out).mono ?_);(case side1=>exact cr_ HO_1);(case side2=>exact(Kd.R_reads' HO_1.out).2.1);rintro e U1 ⟨M4,rfl,M0,hb⟩;refine⟨_,rfl,?_⟩;have n_:=pk3 (Kd.R_below (ro_ HO_1) hb) (Kd.R_lower M0 (L0 bl_)) (E0 bl_ hb);clear HO_1 HB;obtain⟨HO_1,C0,HB⟩:=n_;(try clear hb M0))|((with_reducible refine C1 (f:=37) rfl ?_);refine goL_ (some 20) Try.func37 #[.slice Ao49 x1_1.length co49] ?_;(with_reducible refine(q35.calls k1 _ _ x1_1 ar9 av6 ax2 av8 aG4 cb8 _ ?side1 ?side2 A6.out).mono ?_);(case side1=>exact cr_ HO_1);(case side2=>exact(Kd.R_reads' HO_1.out).2.1);rintro e U1 ⟨M4,rfl,M0,hb⟩;refine⟨_,rfl,?_⟩;have n_:=pk3 (Kd.R_below (ro_ HO_1) hb) (Kd.R_lower M0 (L0 bl_)) (E0 bl_ hb);clear HO_1 HB;obtain⟨HO_1,C0,HB⟩:=n_;(try clear hb M0))|((with_reducible refine X0 (N:=3) rfl ?_);refine L2 3 #[.int .i64 0,.int .i64 0,.int .i64 0,.slice none 0 0,.int .i64 0] 69 ?_;intro B0 hg Z1 hbox hb;have n_:=pk6 (Kd.R_below (ro_ HO_1) hb) (Kd.R_below (ro_ C0) hb) (E0 bl_ hb) (hbox) ((ge_ hg bl_:w.heap.size≤B0)) ((ge_ hg bl_:w.heap.size≤B0));clear HO_1 C0 HB;obtain⟨HO_1,C0,HB,o0,C2,F5⟩:=n_;clear hb hbox hg;have Y2:Z1.cell? ⟨B0,0,none⟩=some (.int .i64 0):=(m0 o0.out 0).trans rfl;have z3:Z1.cell? ⟨B0,1,none⟩=some (.int .i64 0):=(m0 o0.out 1).trans rfl;have V8:Z1.cell? ⟨B0,2,none⟩=some (.int .i64 0):=(m0 o0.out 2).trans rfl;have P9:Z1.cell? ⟨B0,3,none⟩=some (.slice none 0 0):=(m0 o0.out 3).trans rfl;have O9:Z1.cell? ⟨B0,4,none⟩=some (.int .i64 0):=(m0 o0.out 4).trans rfl;have D3:=t0 o0.out 0;have Z2:=t0 o0.out 1;have l9:=t0 o0.out 2;have S9:=t0 o0.out 3;have R9:=t0 o0.out 4;obtain⟨T0,R0,S1⟩:=Kd.R_slice C0.out;subst S1)|((with_reducible refine C1 (f:=40) rfl ?_);refine goL_ (some 25) Try.func40 #[.agg #[.int .i64 ar9,.int .i64 av6,.int .i64 ax2,.slice T0 av8.length R0,.int .i64 aG4]] ?_;(with_reducible refine(q16.calls k1 ar9 av6 ax2 _ _ av8 aG4 de5 dj1 _ ?side1 ?side2 A7.out).mono ?_);(case side1=>refine(Kd.R_reads' (e:=5) (base:=w.heap.size) (ok:=fun k_=>True) (n:=av8.length) (c:=R0) ?_).2.2;exact(rt_ ((Kd.R_mono (Kd.R_far (p:=⟨B0,4,none⟩) (Kd.R_far (p:=⟨B0,3,none⟩) (Kd.R_far (p:=⟨B0,2,none⟩) (Kd.R_far (p:=⟨B0,1,none⟩) (Kd.R_far (p:=⟨B0,0,none⟩) (Kd.R_types C0.out o0.out (by decide)) (fun _ hk=>hk.2) (.int .i64 ar9)) (fun _ hk=>hk.2) (.int .i64 av6)) (fun _ hk=>hk.2) (.int .i64 ax2)) (fun _ hk=>hk.2) (.slice T0 av8.length R0)) (fun _ hk=>hk.2) (.int .i64 aG4)) (fun _ h_=>h_.1)))));(case side2=>exact(Kd.R_reads' C0.out).2.1);rintro e F2 ⟨z5,rfl,M0,hb⟩;refine⟨_,rfl,?_⟩;have n_:=pk5 (Kd.R_elder' (rt_ ((Kd.R_mono (Kd.R_far (p:=⟨B0,4,none⟩) (Kd.R_far (p:=⟨B0,3,none⟩) (Kd.R_far (p:=⟨B0,2,none⟩) (Kd.R_far (p:=⟨B0,1,none⟩) (Kd.R_far (p:=⟨B0,0,none⟩) (Kd.R_types HO_1.out o0.out (by decide)) (fun _ hk=>hk.2) (.int .i64 ar9)) (fun _ hk=>hk.2) (.int .i64 av6)) (fun _ hk=>hk.2) (.int .i64 ax2)) (fun _ hk=>hk.2) (.slice T0 av8.length R0)) (fun _ hk=>hk.2) (.int .i64 aG4)) (fun _ h_=>h_.1)))) (Kd.R_base M0) hb) (Kd.R_below (rt_ ((Kd.R_mono (Kd.R_far (p:=⟨B0,4,none⟩) (Kd.R_far (p:=⟨B0,3,none⟩) (Kd.R_far (p:=⟨B0,2,none⟩) (Kd.R_far (p:=⟨B0,1,none⟩) (Kd.R_far (p:=⟨B0,0,none⟩) (Kd.R_types C0.out o0.out (by decide)) (fun _ hk=>hk.2) (.int .i64 ar9)) (fun _ hk=>hk.2) (.int .i64 av6)) (fun _ hk=>hk.2) (.int .i64 ax2)) (fun _ hk=>hk.2) (.slice T0 av8.length R0)) (fun _ hk=>hk.2) (.int .i64 aG4)) (fun _ h_=>h_.1)))) hb) (Kd.R_lower (Kd.R_new' M0 (Kd.R_lt (rt_ ((Kd.R_mono (Kd.R_far (p:=⟨B0,4,none⟩) (Kd.R_far (p:=⟨B0,3,none⟩) (Kd.R_far (p:=⟨B0,2,none⟩) (Kd.R_far (p:=⟨B0,1,none⟩) (Kd.R_far (p:=⟨B0,0,none⟩) (Kd.R_types HO_1.out o0.out (by decide)) (fun _ hk=>hk.2) (.int .i64 ar9)) (fun _ hk=>hk.2) (.int .i64 av6)) (fun _ hk=>hk.2) (.int .i64 ax2)) (fun _ hk=>hk.2) (.slice T0 av8.length R0)) (fun _ hk=>hk.2) (.int .i64 aG4)) (fun _ h_=>h_.1)))))) (L0 bl_)) (F0 (g:=B0) (o:=.cells #[.int .i64 ar9,.int .i64 av6,.int .i64 ax2,.slice T0 av8.length R0,.int .i64 aG4] 69 (0,0)) (by(with_reducible repeat(first|refine G0 ?_ _|refine J0 ?_|refine I0 ?_ _));refine D1 (cs:=#[.int .i64 ar9,.int .i64 av6,.int .i64 ax2,.slice T0 av8.length R0,.int .i64 0]) ?_ 4 _ rfl;(with_reducible repeat(first|refine G0 ?_ _|refine J0 ?_|refine I0 ?_ _));refine D1 (cs:=#[.int .i64 ar9,.int .i64 av6,.int .i64 ax2,.slice none 0 0,.int .i64 0]) ?_ 3 _ rfl;(with_reducible repeat(first|refine G0 ?_ _|refine J0 ?_|refine I0 ?_ _));refine D1 (cs:=#[.int .i64 ar9,.int .i64 av6,.int .i64 0,.slice none 0 0,.int .i64 0]) ?_ 2 _ rfl;(with_reducible repeat(first|refine G0 ?_ _|refine J0 ?_|refine I0 ?_ _));refine D1 (cs:=#[.int .i64 ar9,.int .i64 0,.int .i64 0,.slice none 0 0,.int .i64 0]) ?_ 1 _ rfl;(with_reducible repeat(first|refine G0 ?_ _|refine J0 ?_|refine I0 ?_ _));refine D1 (cs:=#[.int .i64 0,.int .i64 0,.int .i64 0,.slice none 0 0,.int .i64 0]) ?_ 0 _ rfl;exact(bo_ o0)) hb) (E0 bl_ hb);clear HO_1 C0 o0 HB;obtain⟨HO_1,C0,Q0,o0,HB⟩:=n_;(try clear hb M0);(try(have z4:F2.cell? ⟨B0,0,none⟩=some (.int .i64 ar9):=(m0 o0.out 0).trans rfl;have C4:F2.cell? ⟨B0,1,none⟩=some (.int .i64 av6):=(m0 o0.out 1).trans rfl;have E8:F2.cell? ⟨B0,2,none⟩=some (.int .i64 ax2):=(m0 o0.out 2).trans rfl;have s8:F2.cell? ⟨B0,3,none⟩=some (.slice T0 av8.length R0):=(m0 o0.out 3).trans rfl;have r8:F2.cell? ⟨B0,4,none⟩=some (.int .i64 aG4):=(m0 o0.out 4).trans rfl;have j4:=t0 o0.out 0;have Z3:=t0 o0.out 1;have v8:=t0 o0.out 2;have z8:=t0 o0.out 3;have t8:=t0 o0.out 4;obtain⟨X1,V1,U2⟩:=Kd.R_slice Q0.out;subst U2));(try(have z4:F2.cell? ⟨B0,0,none⟩=some (.int .i64 ar9):=(m0 o0.out 0).trans rfl;have C4:F2.cell? ⟨B0,1,none⟩=some (.int .i64 av6):=(m0 o0.out 1).trans rfl;have E8:F2.cell? ⟨B0,2,none⟩=some (.int .i64 ax2):=(m0 o0.out 2).trans rfl;have s8:F2.cell? ⟨B0,3,none⟩=some (.slice T0 av8.length R0):=(m0 o0.out 3).trans rfl;have r8:F2.cell? ⟨B0,4,none⟩=some (.int .i64 aG4):=(m0 o0.out 4).trans rfl;have j4:=t0 o0.out 0;have Z3:=t0 o0.out 1;have v8:=t0 o0.out 2;have z8:=t0 o0.out 3;have t8:=t0 o0.out 4)))|(go_at_call 42;(with_reducible refine(q34.calls k1 _ _ de5 _ _ x1_1 cG8 _ ?side1 ?side2 ?side3 ?side4 A13.out).mono ?_);(case side1=>exact cr_ Q0);(case side2=>exact(Kd.R_reads' Q0.out).2.1);(case side3=>exact cr_ HO_1);(case side4=>exact(Kd.R_reads' HO_1.out).2.1);rintro e w' ⟨rfl,⟨nd,rfl⟩⟩))
    first
     |go_roundg k1
      case measure=>have:=HK1.out;omega
      case rel=>exact⟨(de6),(wrap64 (x2_1+1)),sm_,H',⟨by have:=HK1.out;omega⟩,⟨(ro_ C0)⟩,⟨bl_⟩⟩
     |go_ret
      exact⟨rf_,bl_⟩
end Go.Proofs.Ytmddmbagehjdeaa.G
end
section
namespace Go.Proofs.Ytmddmbagehjdeaa.G
open Go.RowKit Go.Proofs.YtmddmbagehjdeaaX Go.Proofs.YtmddmbagehjdeaaW.PrintWords Go.Proofs.YtmddmbagehjdeaaW.PrintLast Go.Proofs.YtmddmbagehjdeaaW.PrintMore
attribute [local go_sem] S3 R3 R4 S4 P3 N3 D4 Y3
def q49.f (a0_0:Int) (a0_1:Int) (a0_2:Int) (l0_3:List Int) (a0_4:Int) (a1_0:Int) (a1_1:Int) (a1_2:Int) (l1_3:List Int) (a1_4:Int):Option (Bool):=if a0_0=a1_0 then(if a0_1=a1_1 then(if a0_2=a1_2 then((q67.f l0_3 a0_4 l1_3 a1_4).bind fun cl4=>(some cl4))else(some false))else(some false))else(some false)
theorem q49.calls (a0_0:Int) (a0_1:Int) (a0_2:Int) (A0_3:Option Addr) (c0_3:Nat) (l0_3:List Int) (a0_4:Int) (a1_0:Int) (a1_1:Int) (a1_2:Int) (A1_3:Option Addr) (c1_3:Nat) (l1_3:List Int) (a1_4:Int) (r:Bool) (w:World) (hr0_3:Kd.C (Kd.int .u8) w A0_3 l0_3.length l0_3) (hc0_3:l0_3.length≤c0_3) (hr1_3:Kd.C (Kd.int .u8) w A1_3 l1_3.length l1_3) (hc1_3:l1_3.length≤c1_3) (h:q49.f a0_0 a0_1 a0_2 l0_3 a0_4 a1_0 a1_1 a1_2 l1_3 a1_4=some r) :
  Calls Try.prog 39 #[.agg #[.int .i64 a0_0,.int .i64 a0_1,.int .i64 a0_2,.slice A0_3 l0_3.length c0_3,.int .i64 a0_4],.agg #[.int .i64 a1_0,.int .i64 a1_1,.int .i64 a1_2,.slice A1_3 l1_3.length c1_3,.int .i64 a1_4]] w fun e w'=>e=.returned (.bool r)∧Below w.heap.size w w':=by
 have hu69:=Try.underlying69
 have hu25:=Try.underlying25
 have HR0_3:=q5.mk hr0_3
 have HC0_3:=q5.mk hc0_3
 clear hr0_3 hc0_3
 have HR1_3:=q5.mk hr1_3
 have HC1_3:=q5.mk hc1_3
 clear hr1_3 hc1_3
 have HB:=q5.mk (Below.refl w.heap.size w)
 have H:(if a0_0=a1_0 then(if a0_1=a1_1 then(if a0_2=a1_2 then((q67.f l0_3 a0_4 l1_3 a1_4).bind fun cl4=>(some cl4))else(some false))else(some false))else(some false))=some r:=h
 clear h
 replace H:=deqn H
 rcases H with⟨c3b0,c3b1,H⟩|⟨c3b0,c3b1,c3,H⟩
 focus
  replace H:=deqn H
  rcases H with⟨c4b0,c4b1,H⟩|⟨c4b0,c4b1,c4,H⟩
  focus
   replace H:=deqn H
   rcases H with⟨c5b0,c5b1,H⟩|⟨c5b0,c5b1,c5,H⟩
   focus
    replace H:=N2 H
    obtain⟨cl4,A6,H⟩:=H
    try dsimp only at H
    obtain rfl:=Option.some.inj H
   rotate_left
   focus
    obtain rfl:=Option.some.inj H
  rotate_left 2
  focus
   obtain rfl:=Option.some.inj H
 rotate_left 3
 focus
  obtain rfl:=Option.some.inj H
 all_goals
  go_enter Try.func39,Try.ntmps39
  go_wp2_with (first|((with_reducible refine X0 (N:=2) rfl ?_);refine L2 2 #[.int .i64 a0_0,.int .i64 a0_1,.int .i64 a0_2,.slice A0_3 l0_3.length c0_3,.int .i64 a0_4] 69 ?_;intro B0 hg U1 hbox hb;have n_:=pk4 (E0 bl_ hb) (hbox) ((ge_ hg bl_:w.heap.size≤B0)) ((ge_ hg bl_:w.heap.size≤B0));clear HB;obtain⟨HB,o0,C2,F5⟩:=n_;clear hb hbox hg)|((with_reducible refine X0 (N:=3) rfl ?_);refine L2 3 #[.int .i64 a1_0,.int .i64 a1_1,.int .i64 a1_2,.slice A1_3 l1_3.length c1_3,.int .i64 a1_4] 69 ?_;intro S0 hg Z1 hbox hb;have n_:=pk7 (F0 (bo_ o0) hb) (E0 bl_ hb) (hbox) ((ge_ hg bl_:w.heap.size≤S0)) ((ge_ hg bl_:w.heap.size≤S0)) ((nb_ hg (bo_ o0):B0≠S0)) ((nc_ hg (bo_ o0):S0≠B0));clear o0 HB;obtain⟨o0,HB,O0,V9,W9,Q1,F1⟩:=n_;clear hb hbox hg;have V6:=Q1.out;have Z6:=F1.out;have Y2:Z1.cell? ⟨B0,0,none⟩=some (.int .i64 a0_0):=(m0 o0.out 0).trans rfl;have z3:Z1.cell? ⟨B0,1,none⟩=some (.int .i64 a0_1):=(m0 o0.out 1).trans rfl;have V8:Z1.cell? ⟨B0,2,none⟩=some (.int .i64 a0_2):=(m0 o0.out 2).trans rfl;have P9:Z1.cell? ⟨B0,3,none⟩=some (.slice A0_3 l0_3.length c0_3):=(m0 o0.out 3).trans rfl;have O9:Z1.cell? ⟨B0,4,none⟩=some (.int .i64 a0_4):=(m0 o0.out 4).trans rfl;have D3:=t0 o0.out 0;have Z2:=t0 o0.out 1;have l9:=t0 o0.out 2;have S9:=t0 o0.out 3;have R9:=t0 o0.out 4;have z4:Z1.cell? ⟨S0,0,none⟩=some (.int .i64 a1_0):=(m0 O0.out 0).trans rfl;have C4:Z1.cell? ⟨S0,1,none⟩=some (.int .i64 a1_1):=(m0 O0.out 1).trans rfl;have E8:Z1.cell? ⟨S0,2,none⟩=some (.int .i64 a1_2):=(m0 O0.out 2).trans rfl;have s8:Z1.cell? ⟨S0,3,none⟩=some (.slice A1_3 l1_3.length c1_3):=(m0 O0.out 3).trans rfl;have r8:Z1.cell? ⟨S0,4,none⟩=some (.int .i64 a1_4):=(m0 O0.out 4).trans rfl;have j4:=t0 O0.out 0;have Z3:=t0 O0.out 1;have v8:=t0 O0.out 2;have z8:=t0 O0.out 3;have t8:=t0 O0.out 4)|(go_at_call 66;(with_reducible refine(q67.calls _ _ l0_3 a0_4 _ _ l1_3 a1_4 cl4 _ ?side1 ?side2 ?side3 ?side4 A6.out).mono ?_);(case side1=>exact cb_ HR0_3);(case side2=>exact HC0_3.out);(case side3=>exact cb_ HR1_3);(case side4=>exact HC1_3.out);rintro e F2 ⟨rfl,hb⟩;have n_:=pk3 (F0 (bo_ o0) hb) (F0 (bo_ O0) hb) (E0 bl_ hb);clear o0 O0 HB;obtain⟨o0,O0,HB⟩:=n_;(try clear hb)))
  go_ret
  exact⟨rf_,bl_⟩
def q22.l0:Nat→List (S67)→List Int→Int→Option (List Int)
 |0,_,_,_=>none
 |k+1,x0,x3,x4=>if x4<(x0.length:Int)then(if 0≤x4 then(if x4>0 then(if 0≤(wrap64 (x4 - 1))then(if(wrap64 (x4 - 1))<(x0.length:Int)then(if x4>1 then(if 0≤(wrap64 (x4 - 2))then(if(wrap64 (x4 - 2))<(x0.length:Int)then((some (([wrap64 ((wrap64 (((D0 x0 x4).f0) - ((D0 x0 (wrap64 (x4 - 1))).f0))) - (wrap64 (((D0 x0 (wrap64 (x4 - 1))).f0) - ((D0 x0 (wrap64 (x4 - 2))).f0)))),wrap64 ((wrap64 (((D0 x0 x4).f1) - ((D0 x0 (wrap64 (x4 - 1))).f1))) - (wrap64 (((D0 x0 (wrap64 (x4 - 1))).f1) - ((D0 x0 (wrap64 (x4 - 2))).f1))))]:List Int):List Int)).bind fun au1=>(if x3.length+au1.length<17592186044416 then(q22.l0 k x0 (x3++au1) (wrap64 (x4+1)))else(none)))else(none))else(none))else((some (([wrap64 (((D0 x0 x4).f0) - ((D0 x0 (wrap64 (x4 - 1))).f0)),wrap64 (((D0 x0 x4).f1) - ((D0 x0 (wrap64 (x4 - 1))).f1))]:List Int):List Int)).bind fun aD4=>(if x3.length+aD4.length<17592186044416 then(q22.l0 k x0 (x3++aD4) (wrap64 (x4+1)))else(none))))else(none))else(none))else(if x4>1 then(if 0≤(wrap64 (x4 - 1))then(if(wrap64 (x4 - 1))<(x0.length:Int)then(if 0≤(wrap64 (x4 - 2))then(if(wrap64 (x4 - 2))<(x0.length:Int)then((some (([wrap64 (((D0 x0 x4).f0) - (wrap64 (((D0 x0 (wrap64 (x4 - 1))).f0) - ((D0 x0 (wrap64 (x4 - 2))).f0)))),wrap64 (((D0 x0 x4).f1) - (wrap64 (((D0 x0 (wrap64 (x4 - 1))).f1) - ((D0 x0 (wrap64 (x4 - 2))).f1))))]:List Int):List Int)).bind fun as9=>(if x3.length+as9.length<17592186044416 then(q22.l0 k x0 (x3++as9) (wrap64 (x4+1)))else(none)))else(none))else(none))else(none))else(none))else((some (([(D0 x0 x4).f0,(D0 x0 x4).f1]:List Int):List Int)).bind fun aO9=>(if x3.length+aO9.length<17592186044416 then(q22.l0 k x0 (x3++aO9) (wrap64 (x4+1)))else(none)))))else(none))else(some x3)
def q22.f (k:Nat) (l0:List (S67)):Option (List Int):=q22.l0 k l0 (([(l0.length:Int)]:List Int)) 0
theorem q22.calls (k:Nat) (A0:Option Addr) (c0:Nat) (l0:List (S67)) (r:List Int) (w:World) (hr0:Kd.C k67 w A0 l0.length l0) (hc0:l0.length≤c0) (h:q22.f k l0=some r) :
  Calls Try.prog 87 #[.slice A0 l0.length c0] w fun e w'=>∃ v0_:Value,e=.returned (v0_)∧Kd.R (Kd.int .i64) 3 w' w.heap.size (fun _=>True) v0_ r∧Below w.heap.size w w':=by
 have HR0:=q5.mk hr0
 have HC0:=q5.mk hc0
 clear hr0 hc0
 have HB:=q5.mk (Below.refl w.heap.size w)
 have H:(q22.l0 k l0 (([(l0.length:Int)]:List Int)) 0)=some r:=h
 clear h
 obtain⟨cZ0,bw0⟩:∃ y_:List Int,y_=(([(l0.length:Int)]:List Int)):=⟨_,rfl⟩
 replace H:(q22.l0 k l0 cZ0 0)=some r:=by first|(rw [bw0];with_reducible exact H)|(have H2_:=(Option.bind_some _ _).symm.trans H;rw [bw0];with_reducible exact H2_)|(have H2_:=(Option.bind_some _ _).symm.trans H;with_reducible exact H2_)|with_reducible exact H|(rw [bw0];exact H)|exact H
 have be6:=q5.mk bw0
 clear bw0
 have H':=q5.mk H
 clear H
 go_enter Try.func87,Try.ntmps87
 go_wp2_with (first|((with_reducible refine X0 (N:=9) rfl ?_);refine Kd.R_lit (Kd.int .i64) _ 3 ?hg (N:=9) ?hd (xs:=([(l0.length:Int)]:List Int)) (inner:=[.int .i64 (l0.length:Int)]) (ok:=fun _=>True) (okp:=fun _=>True) ?hr ?hp (fun _ hk=>hk) trivial (Below.refl _ _) (Nat.le_refl _) (by simp) ?_;(case hd=>rfl);(case hg=>rfl);(case hr=>first|(go_simp;done)|(go_simp;rfl));(case hp=>exact(Reps.one (show Kd.M (Kd.int .i64) _ _ _ (l0.length:Int) [.int .i64 (l0.length:Int)] from rfl) (Reps.none _ _)));intro da6 w2 ho3 hb hg_ hnew_;clear hg_ hnew_;(first|rw [←be6.out] at ho3|(simp only [Int.reduceToNat] at ho3;rw [←be6.out] at ho3));have n_:=pk2 (Kd.R_lower ho3 (L0 bl_)) (E0 bl_ hb);clear HB;obtain⟨cg5,HB⟩:=n_;clear hb ho3))
 repeat(go_quiet (first|((with_reducible refine X0 (N:=9) rfl ?_);refine Kd.R_lit (Kd.int .i64) _ 3 ?hg (N:=9) ?hd (xs:=([(l0.length:Int)]:List Int)) (inner:=[.int .i64 (l0.length:Int)]) (ok:=fun _=>True) (okp:=fun _=>True) ?hr ?hp (fun _ hk=>hk) trivial (Below.refl _ _) (Nat.le_refl _) (by simp) ?_;(case hd=>rfl);(case hg=>rfl);(case hr=>first|(go_simp;done)|(go_simp;rfl));(case hp=>exact(Reps.one (show Kd.M (Kd.int .i64) _ _ _ (l0.length:Int) [.int .i64 (l0.length:Int)] from rfl) (Reps.none _ _)));intro da6 w2 ho3 hb hg_ hnew_;clear hg_ hnew_;(first|rw [←be6.out] at ho3|(simp only [Int.reduceToNat] at ho3;rw [←be6.out] at ho3));have n_:=pk2 (Kd.R_lower ho3 (L0 bl_)) (E0 bl_ hb);clear HB;obtain⟨cg5,HB⟩:=n_;clear hb ho3));try go_wp2_with (first|((with_reducible refine X0 (N:=9) rfl ?_);refine Kd.R_lit (Kd.int .i64) _ 3 ?hg (N:=9) ?hd (xs:=([(l0.length:Int)]:List Int)) (inner:=[.int .i64 (l0.length:Int)]) (ok:=fun _=>True) (okp:=fun _=>True) ?hr ?hp (fun _ hk=>hk) trivial (Below.refl _ _) (Nat.le_refl _) (by simp) ?_;(case hd=>rfl);(case hg=>rfl);(case hr=>first|(go_simp;done)|(go_simp;rfl));(case hp=>exact(Reps.one (show Kd.M (Kd.int .i64) _ _ _ (l0.length:Int) [.int .i64 (l0.length:Int)] from rfl) (Reps.none _ _)));intro da6 w2 ho3 hb hg_ hnew_;clear hg_ hnew_;(first|rw [←be6.out] at ho3|(simp only [Int.reduceToNat] at ho3;rw [←be6.out] at ho3));have n_:=pk2 (Kd.R_lower ho3 (L0 bl_)) (E0 bl_ hb);clear HB;obtain⟨cg5,HB⟩:=n_;clear hb ho3)))
 go_loopg [3,4] k (fun kq v3 v4 w'=>∃ (x3_1:List Int) (x4_1:Int),v4=.int .i64 x4_1∧q5 (q22.l0 kq l0 x3_1 x4_1=some r)∧q5 (kq≤k)∧q5 (Kd.R (Kd.int .i64) 3 w' w.heap.size (fun _=>True) v3 x3_1)∧q5 (Below w.heap.size w w'))
 case atStart=>exact⟨(cZ0),(0),sm_,H',⟨Nat.le_refl _⟩,⟨(ro_ cg5)⟩,⟨bl_⟩⟩
 case round =>
  clear H'
  obtain⟨x3_1,x4_1,rfl,HA,HK1,HO_3,HB⟩:=hrel
  cases gk with
  |zero=>exact absurd HA.out (by simp [q22.l0])
  |succ k1 =>
   have H:=HA.out
   clear HA
   simp only [q22.l0] at H
   replace H:=dle H
   rcases H with⟨c4b0,H⟩|⟨c4b0,H⟩
   focus
    replace H:=dle H
    rcases H with⟨c5b0,H⟩|⟨c5b0,H⟩
    rotate_left
    ·exact absurd H (by simp)
    replace H:=dgt H
    rcases H with⟨c6b0,H⟩|⟨c6b0,H⟩
    focus
     obtain⟨ji7,hji7⟩:∃ j_:Int,(wrap64 (x4_1 - 1))=j_:=⟨_,rfl⟩
     replace H:(if 0≤(ji7)then(if(ji7)<(l0.length:Int)then(if x4_1>1 then(if 0≤(wrap64 (x4_1 - 2))then(if(wrap64 (x4_1 - 2))<(l0.length:Int)then((some (([wrap64 ((wrap64 (((D0 l0 x4_1).f0) - ((D0 l0 (ji7)).f0))) - (wrap64 (((D0 l0 (ji7)).f0) - ((D0 l0 (wrap64 (x4_1 - 2))).f0)))),wrap64 ((wrap64 (((D0 l0 x4_1).f1) - ((D0 l0 (ji7)).f1))) - (wrap64 (((D0 l0 (ji7)).f1) - ((D0 l0 (wrap64 (x4_1 - 2))).f1))))]:List Int):List Int)).bind fun au1=>(if x3_1.length+au1.length<17592186044416 then(q22.l0 k1 l0 (x3_1++au1) (wrap64 (x4_1+1)))else(none)))else(none))else(none))else((some (([wrap64 (((D0 l0 x4_1).f0) - ((D0 l0 (ji7)).f0)),wrap64 (((D0 l0 x4_1).f1) - ((D0 l0 (ji7)).f1))]:List Int):List Int)).bind fun aD4=>(if x3_1.length+aD4.length<17592186044416 then(q22.l0 k1 l0 (x3_1++aD4) (wrap64 (x4_1+1)))else(none))))else(none))else(none))=some r:=by first|(rw [hji7] at H;exact H)|(simp only [hji7] at H ⊢;exact H)
     have hji7w:(IntKind.i64.wrap (x4_1 - 1))=ji7:=(N0 _).trans hji7
     replace H:=dle H
     rcases H with⟨c8b0,H⟩|⟨c8b0,H⟩
     rotate_left
     ·exact absurd H (by simp)
     replace H:=dle H
     rcases H with⟨c9b0,H⟩|⟨c9b0,H⟩
     rotate_left
     ·exact absurd H (by simp)
     replace H:=dgt H
     rcases H with⟨c10b0,H⟩|⟨c10b0,H⟩
     focus
      obtain⟨ji11,hji11⟩:∃ j_:Int,(wrap64 (x4_1 - 2))=j_:=⟨_,rfl⟩
      replace H:(if 0≤(ji11)then(if(ji11)<(l0.length:Int)then((some (([wrap64 ((wrap64 (((D0 l0 x4_1).f0) - ((D0 l0 (ji7)).f0))) - (wrap64 (((D0 l0 (ji7)).f0) - ((D0 l0 (ji11)).f0)))),wrap64 ((wrap64 (((D0 l0 x4_1).f1) - ((D0 l0 (ji7)).f1))) - (wrap64 (((D0 l0 (ji7)).f1) - ((D0 l0 (ji11)).f1))))]:List Int):List Int)).bind fun au1=>(if x3_1.length+au1.length<17592186044416 then(q22.l0 k1 l0 (x3_1++au1) (wrap64 (x4_1+1)))else(none)))else(none))else(none))=some r:=by first|(rw [hji11] at H;exact H)|(simp only [hji11] at H ⊢;exact H)
      have hji11w:(IntKind.i64.wrap (x4_1 - 2))=ji11:=(N0 _).trans hji11
      replace H:=dle H
      rcases H with⟨c12b0,H⟩|⟨c12b0,H⟩
      rotate_left
      ·exact absurd H (by simp)
      replace H:=dle H
      rcases H with⟨c13b0,H⟩|⟨c13b0,H⟩
      rotate_left
      ·exact absurd H (by simp)
      obtain⟨au1,bt9⟩:∃ y_:List Int,y_=(([wrap64 ((wrap64 (((D0 l0 x4_1).f0) - ((D0 l0 (ji7)).f0))) - (wrap64 (((D0 l0 (ji7)).f0) - ((D0 l0 (ji11)).f0)))),wrap64 ((wrap64 (((D0 l0 x4_1).f1) - ((D0 l0 (ji7)).f1))) - (wrap64 (((D0 l0 (ji7)).f1) - ((D0 l0 (ji11)).f1))))]:List Int)):=⟨_,rfl⟩
      replace H:(if x3_1.length+au1.length<17592186044416 then(q22.l0 k1 l0 (x3_1++au1) (wrap64 (x4_1+1)))else(none))=some r:=by first|(rw [bt9];with_reducible exact H)|(have H2_:=(Option.bind_some _ _).symm.trans H;rw [bt9];with_reducible exact H2_)|(have H2_:=(Option.bind_some _ _).symm.trans H;with_reducible exact H2_)|with_reducible exact H|(rw [bt9];exact H)|exact H
      have bh3:=q5.mk bt9
      clear bt9
      by_cases c14:x3_1.length+au1.length<17592186044416
      rotate_left
      ·rw [if_neg c14] at H
       exact absurd H (by simp)
      rw [if_pos c14] at H
      have LMc14:=q5.mk c14
      clear c14
      obtain⟨dc0,bw6⟩:∃ y_:List Int,y_=(x3_1++au1):=⟨_,rfl⟩
      replace H:(q22.l0 k1 l0 dc0 (wrap64 (x4_1+1)))=some r:=by first|(rw [bw6];with_reducible exact H)|(have H2_:=(Option.bind_some _ _).symm.trans H;rw [bw6];with_reducible exact H2_)|(have H2_:=(Option.bind_some _ _).symm.trans H;with_reducible exact H2_)|with_reducible exact H|(rw [bw6];exact H)|exact H
      have cf6:=q5.mk bw6
      clear bw6
      have H':=q5.mk H
      clear H
      have aH9:0≤(x4_1:Int):=dc_
      have aI2:x4_1<(l0.length:Int):=dc_
      obtain⟨af3,bM7,H9,J9⟩:=R2 HR0.out x4_1 aH9 aI2
      cases bM7
      replace H9:=(HB.out.cell (World.block_lt_of_cell? w _ H9)).trans H9
      replace J9:=(HB.out.cell (World.block_lt_of_cell? w _ J9)).trans J9
      replace aH9:=eq_true aH9
      replace aI2:=eq_true aI2
      have aF6:0≤(x4_1:Int):=dc_
      have aI3:x4_1<(l0.length:Int):=dc_
      obtain⟨bb2,bO7,K9,I9⟩:=R2 HR0.out x4_1 aF6 aI3
      obtain rfl:af3=bb2:=(by injection bO7)
      replace K9:=(HB.out.cell (World.block_lt_of_cell? w _ K9)).trans K9
      replace I9:=(HB.out.cell (World.block_lt_of_cell? w _ I9)).trans I9
      replace aF6:=eq_true aF6
      replace aI3:=eq_true aI3
      have bQ6:0≤((ji7):Int):=dc_
      have bO0:(ji7)<(l0.length:Int):=dc_
      obtain⟨cm4,cK2,at8,at0⟩:=R2 HR0.out (ji7) bQ6 bO0
      obtain rfl:af3=cm4:=(by injection cK2)
      replace at8:=(HB.out.cell (World.block_lt_of_cell? w _ at8)).trans at8
      replace at0:=(HB.out.cell (World.block_lt_of_cell? w _ at0)).trans at0
      replace bQ6:=eq_true bQ6
      replace bO0:=eq_true bO0
      have bM9:0≤((ji7):Int):=dc_
      have bM6:(ji7)<(l0.length:Int):=dc_
      obtain⟨cf7,cO6,ar5,as6⟩:=R2 HR0.out (ji7) bM9 bM6
      obtain rfl:af3=cf7:=(by injection cO6)
      replace ar5:=(HB.out.cell (World.block_lt_of_cell? w _ ar5)).trans ar5
      replace as6:=(HB.out.cell (World.block_lt_of_cell? w _ as6)).trans as6
      replace bM9:=eq_true bM9
      replace bM6:=eq_true bM6
      have cJ8:0≤((ji7):Int):=dc_
      have cP0:(ji7)<(l0.length:Int):=dc_
      obtain⟨cU4,dm9,bn3,bq0⟩:=R2 HR0.out (ji7) cJ8 cP0
      obtain rfl:af3=cU4:=(by injection dm9)
      replace bn3:=(HB.out.cell (World.block_lt_of_cell? w _ bn3)).trans bn3
      replace bq0:=(HB.out.cell (World.block_lt_of_cell? w _ bq0)).trans bq0
      replace cJ8:=eq_true cJ8
      replace cP0:=eq_true cP0
      have cP1:0≤((ji11):Int):=dc_
      have cM2:(ji11)<(l0.length:Int):=dc_
      obtain⟨cU7,dm6,bo2,bm3⟩:=R2 HR0.out (ji11) cP1 cM2
      obtain rfl:af3=cU7:=(by injection dm6)
      replace bo2:=(HB.out.cell (World.block_lt_of_cell? w _ bo2)).trans bo2
      replace bm3:=(HB.out.cell (World.block_lt_of_cell? w _ bm3)).trans bm3
      replace cP1:=eq_true cP1
      replace cM2:=eq_true cM2
      have cN4:0≤((ji7):Int):=dc_
      have cP4:(ji7)<(l0.length:Int):=dc_
      obtain⟨cY9,dk0,bo4,bo6⟩:=R2 HR0.out (ji7) cN4 cP4
      obtain rfl:af3=cY9:=(by injection dk0)
      replace bo4:=(HB.out.cell (World.block_lt_of_cell? w _ bo4)).trans bo4
      replace bo6:=(HB.out.cell (World.block_lt_of_cell? w _ bo6)).trans bo6
      replace cN4:=eq_true cN4
      replace cP4:=eq_true cP4
      have cF7:0≤((ji11):Int):=dc_
      have cK3:(ji11)<(l0.length:Int):=dc_
      obtain⟨db8,di5,bn4,bl2⟩:=R2 HR0.out (ji11) cF7 cK3
      obtain rfl:af3=db8:=(by injection di5)
      replace bn4:=(HB.out.cell (World.block_lt_of_cell? w _ bn4)).trans bn4
      replace bl2:=(HB.out.cell (World.block_lt_of_cell? w _ bl2)).trans bl2
      replace cF7:=eq_true cF7
      replace cK3:=eq_true cK3
     rotate_left
     focus
      obtain⟨aD4,bz9⟩:∃ y_:List Int,y_=(([wrap64 (((D0 l0 x4_1).f0) - ((D0 l0 (ji7)).f0)),wrap64 (((D0 l0 x4_1).f1) - ((D0 l0 (ji7)).f1))]:List Int)):=⟨_,rfl⟩
      replace H:(if x3_1.length+aD4.length<17592186044416 then(q22.l0 k1 l0 (x3_1++aD4) (wrap64 (x4_1+1)))else(none))=some r:=by first|(rw [bz9];with_reducible exact H)|(have H2_:=(Option.bind_some _ _).symm.trans H;rw [bz9];with_reducible exact H2_)|(have H2_:=(Option.bind_some _ _).symm.trans H;with_reducible exact H2_)|with_reducible exact H|(rw [bz9];exact H)|exact H
      have bj6:=q5.mk bz9
      clear bz9
      by_cases c19:x3_1.length+aD4.length<17592186044416
      rotate_left
      ·rw [if_neg c19] at H
       exact absurd H (by simp)
      rw [if_pos c19] at H
      have LMc19:=q5.mk c19
      clear c19
      obtain⟨cT1,bt1⟩:∃ y_:List Int,y_=(x3_1++aD4):=⟨_,rfl⟩
      replace H:(q22.l0 k1 l0 cT1 (wrap64 (x4_1+1)))=some r:=by first|(rw [bt1];with_reducible exact H)|(have H2_:=(Option.bind_some _ _).symm.trans H;rw [bt1];with_reducible exact H2_)|(have H2_:=(Option.bind_some _ _).symm.trans H;with_reducible exact H2_)|with_reducible exact H|(rw [bt1];exact H)|exact H
      have cp3:=q5.mk bt1
      clear bt1
      have H':=q5.mk H
      clear H
      have aH9:0≤(x4_1:Int):=dc_
      have aI2:x4_1<(l0.length:Int):=dc_
      obtain⟨af3,bM7,H9,J9⟩:=R2 HR0.out x4_1 aH9 aI2
      cases bM7
      replace H9:=(HB.out.cell (World.block_lt_of_cell? w _ H9)).trans H9
      replace J9:=(HB.out.cell (World.block_lt_of_cell? w _ J9)).trans J9
      replace aH9:=eq_true aH9
      replace aI2:=eq_true aI2
      have aF6:0≤(x4_1:Int):=dc_
      have aI3:x4_1<(l0.length:Int):=dc_
      obtain⟨bb2,bO7,K9,I9⟩:=R2 HR0.out x4_1 aF6 aI3
      obtain rfl:af3=bb2:=(by injection bO7)
      replace K9:=(HB.out.cell (World.block_lt_of_cell? w _ K9)).trans K9
      replace I9:=(HB.out.cell (World.block_lt_of_cell? w _ I9)).trans I9
      replace aF6:=eq_true aF6
      replace aI3:=eq_true aI3
      have bQ6:0≤((ji7):Int):=dc_
      have bO0:(ji7)<(l0.length:Int):=dc_
      obtain⟨cm4,cK2,at8,at0⟩:=R2 HR0.out (ji7) bQ6 bO0
      obtain rfl:af3=cm4:=(by injection cK2)
      replace at8:=(HB.out.cell (World.block_lt_of_cell? w _ at8)).trans at8
      replace at0:=(HB.out.cell (World.block_lt_of_cell? w _ at0)).trans at0
      replace bQ6:=eq_true bQ6
      replace bO0:=eq_true bO0
      have bM9:0≤((ji7):Int):=dc_
      have bM6:(ji7)<(l0.length:Int):=dc_
      obtain⟨cf7,cO6,ar5,as6⟩:=R2 HR0.out (ji7) bM9 bM6
      obtain rfl:af3=cf7:=(by injection cO6)
      replace ar5:=(HB.out.cell (World.block_lt_of_cell? w _ ar5)).trans ar5
      replace as6:=(HB.out.cell (World.block_lt_of_cell? w _ as6)).trans as6
      replace bM9:=eq_true bM9
      replace bM6:=eq_true bM6
    rotate_left 2
    focus
     replace H:=dgt H
     rcases H with⟨c24b0,H⟩|⟨c24b0,H⟩
     focus
      obtain⟨ji25,hji25⟩:∃ j_:Int,(wrap64 (x4_1 - 1))=j_:=⟨_,rfl⟩
      replace H:(if 0≤(ji25)then(if(ji25)<(l0.length:Int)then(if 0≤(wrap64 (x4_1 - 2))then(if(wrap64 (x4_1 - 2))<(l0.length:Int)then((some (([wrap64 (((D0 l0 x4_1).f0) - (wrap64 (((D0 l0 (ji25)).f0) - ((D0 l0 (wrap64 (x4_1 - 2))).f0)))),wrap64 (((D0 l0 x4_1).f1) - (wrap64 (((D0 l0 (ji25)).f1) - ((D0 l0 (wrap64 (x4_1 - 2))).f1))))]:List Int):List Int)).bind fun as9=>(if x3_1.length+as9.length<17592186044416 then(q22.l0 k1 l0 (x3_1++as9) (wrap64 (x4_1+1)))else(none)))else(none))else(none))else(none))else(none))=some r:=by first|(rw [hji25] at H;exact H)|(simp only [hji25] at H ⊢;exact H)
      have hji25w:(IntKind.i64.wrap (x4_1 - 1))=ji25:=(N0 _).trans hji25
      replace H:=dle H
      rcases H with⟨c26b0,H⟩|⟨c26b0,H⟩
      rotate_left
      ·exact absurd H (by simp)
      replace H:=dle H
      rcases H with⟨c27b0,H⟩|⟨c27b0,H⟩
      rotate_left
      ·exact absurd H (by simp)
      obtain⟨ji28,hji28⟩:∃ j_:Int,(wrap64 (x4_1 - 2))=j_:=⟨_,rfl⟩
      replace H:(if 0≤(ji28)then(if(ji28)<(l0.length:Int)then((some (([wrap64 (((D0 l0 x4_1).f0) - (wrap64 (((D0 l0 (ji25)).f0) - ((D0 l0 (ji28)).f0)))),wrap64 (((D0 l0 x4_1).f1) - (wrap64 (((D0 l0 (ji25)).f1) - ((D0 l0 (ji28)).f1))))]:List Int):List Int)).bind fun as9=>(if x3_1.length+as9.length<17592186044416 then(q22.l0 k1 l0 (x3_1++as9) (wrap64 (x4_1+1)))else(none)))else(none))else(none))=some r:=by first|(rw [hji28] at H;exact H)|(simp only [hji28] at H ⊢;exact H)
      have hji28w:(IntKind.i64.wrap (x4_1 - 2))=ji28:=(N0 _).trans hji28
      replace H:=dle H
      rcases H with⟨c29b0,H⟩|⟨c29b0,H⟩
      rotate_left
      ·exact absurd H (by simp)
      replace H:=dle H
      rcases H with⟨c30b0,H⟩|⟨c30b0,H⟩
      rotate_left
      ·exact absurd H (by simp)
      obtain⟨as9,bD9⟩:∃ y_:List Int,y_=(([wrap64 (((D0 l0 x4_1).f0) - (wrap64 (((D0 l0 (ji25)).f0) - ((D0 l0 (ji28)).f0)))),wrap64 (((D0 l0 x4_1).f1) - (wrap64 (((D0 l0 (ji25)).f1) - ((D0 l0 (ji28)).f1))))]:List Int)):=⟨_,rfl⟩
      replace H:(if x3_1.length+as9.length<17592186044416 then(q22.l0 k1 l0 (x3_1++as9) (wrap64 (x4_1+1)))else(none))=some r:=by first|(rw [bD9];with_reducible exact H)|(have H2_:=(Option.bind_some _ _).symm.trans H;rw [bD9];with_reducible exact H2_)|(have H2_:=(Option.bind_some _ _).symm.trans H;with_reducible exact H2_)|with_reducible exact H|(rw [bD9];exact H)|exact H
      have bg0:=q5.mk bD9
      clear bD9
      by_cases c31:x3_1.length+as9.length<17592186044416
      rotate_left
      ·rw [if_neg c31] at H
       exact absurd H (by simp)
      rw [if_pos c31] at H
      have LMc31:=q5.mk c31
      clear c31
      obtain⟨df4,bA5⟩:∃ y_:List Int,y_=(x3_1++as9):=⟨_,rfl⟩
      replace H:(q22.l0 k1 l0 df4 (wrap64 (x4_1+1)))=some r:=by first|(rw [bA5];with_reducible exact H)|(have H2_:=(Option.bind_some _ _).symm.trans H;rw [bA5];with_reducible exact H2_)|(have H2_:=(Option.bind_some _ _).symm.trans H;with_reducible exact H2_)|with_reducible exact H|(rw [bA5];exact H)|exact H
      have cj2:=q5.mk bA5
      clear bA5
      have H':=q5.mk H
      clear H
      have aH9:0≤(x4_1:Int):=dc_
      have aI2:x4_1<(l0.length:Int):=dc_
      obtain⟨af3,bM7,H9,J9⟩:=R2 HR0.out x4_1 aH9 aI2
      cases bM7
      replace H9:=(HB.out.cell (World.block_lt_of_cell? w _ H9)).trans H9
      replace J9:=(HB.out.cell (World.block_lt_of_cell? w _ J9)).trans J9
      replace aH9:=eq_true aH9
      replace aI2:=eq_true aI2
      have aF6:0≤(x4_1:Int):=dc_
      have aI3:x4_1<(l0.length:Int):=dc_
      obtain⟨bb2,bO7,K9,I9⟩:=R2 HR0.out x4_1 aF6 aI3
      obtain rfl:af3=bb2:=(by injection bO7)
      replace K9:=(HB.out.cell (World.block_lt_of_cell? w _ K9)).trans K9
      replace I9:=(HB.out.cell (World.block_lt_of_cell? w _ I9)).trans I9
      replace aF6:=eq_true aF6
      replace aI3:=eq_true aI3
      have cL3:0≤((ji25):Int):=dc_
      have cM0:(ji25)<(l0.length:Int):=dc_
      obtain⟨df6,do5,br2,bl6⟩:=R2 HR0.out (ji25) cL3 cM0
      obtain rfl:af3=df6:=(by injection do5)
      replace br2:=(HB.out.cell (World.block_lt_of_cell? w _ br2)).trans br2
      replace bl6:=(HB.out.cell (World.block_lt_of_cell? w _ bl6)).trans bl6
      replace cL3:=eq_true cL3
      replace cM0:=eq_true cM0
      have cK9:0≤((ji28):Int):=dc_
      have cO2:(ji28)<(l0.length:Int):=dc_
      obtain⟨cV0,dm5,bm1,bl7⟩:=R2 HR0.out (ji28) cK9 cO2
      obtain rfl:af3=cV0:=(by injection dm5)
      replace bm1:=(HB.out.cell (World.block_lt_of_cell? w _ bm1)).trans bm1
      replace bl7:=(HB.out.cell (World.block_lt_of_cell? w _ bl7)).trans bl7
      replace cK9:=eq_true cK9
      replace cO2:=eq_true cO2
      have cH5:0≤((ji25):Int):=dc_
      have cN5:(ji25)<(l0.length:Int):=dc_
      obtain⟨dc7,dl7,bm5,bq2⟩:=R2 HR0.out (ji25) cH5 cN5
      obtain rfl:af3=dc7:=(by injection dl7)
      replace bm5:=(HB.out.cell (World.block_lt_of_cell? w _ bm5)).trans bm5
      replace bq2:=(HB.out.cell (World.block_lt_of_cell? w _ bq2)).trans bq2
      replace cH5:=eq_true cH5
      replace cN5:=eq_true cN5
      have cG9:0≤((ji28):Int):=dc_
      have cO3:(ji28)<(l0.length:Int):=dc_
      obtain⟨dd6,dl6,bq1,bo8⟩:=R2 HR0.out (ji28) cG9 cO3
      obtain rfl:af3=dd6:=(by injection dl6)
      replace bq1:=(HB.out.cell (World.block_lt_of_cell? w _ bq1)).trans bq1
      replace bo8:=(HB.out.cell (World.block_lt_of_cell? w _ bo8)).trans bo8
      replace cG9:=eq_true cG9
      replace cO3:=eq_true cO3
     rotate_left
     focus
      obtain⟨aO9,bs4⟩:∃ y_:List Int,y_=(([(D0 l0 x4_1).f0,(D0 l0 x4_1).f1]:List Int)):=⟨_,rfl⟩
      replace H:(if x3_1.length+aO9.length<17592186044416 then(q22.l0 k1 l0 (x3_1++aO9) (wrap64 (x4_1+1)))else(none))=some r:=by first|(rw [bs4];with_reducible exact H)|(have H2_:=(Option.bind_some _ _).symm.trans H;rw [bs4];with_reducible exact H2_)|(have H2_:=(Option.bind_some _ _).symm.trans H;with_reducible exact H2_)|with_reducible exact H|(rw [bs4];exact H)|exact H
      have bg7:=q5.mk bs4
      clear bs4
      by_cases c36:x3_1.length+aO9.length<17592186044416
      rotate_left
      ·rw [if_neg c36] at H
       exact absurd H (by simp)
      rw [if_pos c36] at H
      have LMc36:=q5.mk c36
      clear c36
      obtain⟨db7,bv1⟩:∃ y_:List Int,y_=(x3_1++aO9):=⟨_,rfl⟩
      replace H:(q22.l0 k1 l0 db7 (wrap64 (x4_1+1)))=some r:=by first|(rw [bv1];with_reducible exact H)|(have H2_:=(Option.bind_some _ _).symm.trans H;rw [bv1];with_reducible exact H2_)|(have H2_:=(Option.bind_some _ _).symm.trans H;with_reducible exact H2_)|with_reducible exact H|(rw [bv1];exact H)|exact H
      have cg8:=q5.mk bv1
      clear bv1
      have H':=q5.mk H
      clear H
      have aH9:0≤(x4_1:Int):=dc_
      have aI2:x4_1<(l0.length:Int):=dc_
      obtain⟨af3,bM7,H9,J9⟩:=R2 HR0.out x4_1 aH9 aI2
      cases bM7
      replace H9:=(HB.out.cell (World.block_lt_of_cell? w _ H9)).trans H9
      replace J9:=(HB.out.cell (World.block_lt_of_cell? w _ J9)).trans J9
      replace aH9:=eq_true aH9
      replace aI2:=eq_true aI2
      have aF6:0≤(x4_1:Int):=dc_
      have aI3:x4_1<(l0.length:Int):=dc_
      obtain⟨bb2,bO7,K9,I9⟩:=R2 HR0.out x4_1 aF6 aI3
      obtain rfl:af3=bb2:=(by injection bO7)
      replace K9:=(HB.out.cell (World.block_lt_of_cell? w _ K9)).trans K9
      replace I9:=(HB.out.cell (World.block_lt_of_cell? w _ I9)).trans I9
      replace aF6:=eq_true aF6
      replace aI3:=eq_true aI3
   rotate_left 4
   focus
    obtain rfl:=Option.some.inj H
   all_goals
    go_wp2_with (first|((with_reducible refine X0 (N:=79) rfl ?_);refine Kd.R_lit (Kd.int .i64) _ 3 ?hg (N:=79) ?hd (xs:=([wrap64 ((wrap64 (((D0 l0 x4_1).f0) - ((D0 l0 (ji7)).f0))) - (wrap64 (((D0 l0 (ji7)).f0) - ((D0 l0 (ji11)).f0)))),wrap64 ((wrap64 (((D0 l0 x4_1).f1) - ((D0 l0 (ji7)).f1))) - (wrap64 (((D0 l0 (ji7)).f1) - ((D0 l0 (ji11)).f1))))]:List Int)) (inner:=[.int .i64 (wrap64 ((wrap64 (((D0 l0 x4_1).f0) - ((D0 l0 (ji7)).f0))) - (wrap64 (((D0 l0 (ji7)).f0) - ((D0 l0 (ji11)).f0))))),.int .i64 (wrap64 ((wrap64 (((D0 l0 x4_1).f1) - ((D0 l0 (ji7)).f1))) - (wrap64 (((D0 l0 (ji7)).f1) - ((D0 l0 (ji11)).f1)))))]) (ok:=fun _=>True) (okp:=fun _=>True) ?hr ?hp (fun _ hk=>hk) trivial (Below.refl _ _) (Nat.le_refl _) (by simp) ?_;(case hd=>rfl);(case hg=>rfl);(case hr=>first|(go_simp;done)|(go_simp;rfl));(case hp=>exact(Reps.one (show Kd.M (Kd.int .i64) _ _ _ (wrap64 ((wrap64 (((D0 l0 x4_1).f0) - ((D0 l0 (ji7)).f0))) - (wrap64 (((D0 l0 (ji7)).f0) - ((D0 l0 (ji11)).f0))))) [.int .i64 (wrap64 ((wrap64 (((D0 l0 x4_1).f0) - ((D0 l0 (ji7)).f0))) - (wrap64 (((D0 l0 (ji7)).f0) - ((D0 l0 (ji11)).f0)))))] from rfl) (Reps.one (show Kd.M (Kd.int .i64) _ _ _ (wrap64 ((wrap64 (((D0 l0 x4_1).f1) - ((D0 l0 (ji7)).f1))) - (wrap64 (((D0 l0 (ji7)).f1) - ((D0 l0 (ji11)).f1))))) [.int .i64 (wrap64 ((wrap64 (((D0 l0 x4_1).f1) - ((D0 l0 (ji7)).f1))) - (wrap64 (((D0 l0 (ji7)).f1) - ((D0 l0 (ji11)).f1)))))] from rfl) (Reps.none _ _))));intro M4 U1 M0 hb hg_ hnew_;clear hg_ hnew_;(first|rw [←bh3.out] at M0|(simp only [Int.reduceToNat] at M0;rw [←bh3.out] at M0));have n_:=pk3 (Kd.R_elder' (ro_ HO_3) (Kd.R_base M0) hb) (Kd.R_lower (Kd.R_new' M0 (Kd.R_lt (ro_ HO_3))) (L0 bl_)) (E0 bl_ hb);clear HO_3 HB;obtain⟨HO_3,C0,HB⟩:=n_;clear hb M0;obtain⟨T0,R0,S1⟩:=Kd.R_slice C0.out;subst S1)|((with_reducible refine X0 (N:=79) rfl ?_);refine Kd.R_lit (Kd.int .i64) _ 3 ?hg (N:=79) ?hd (xs:=([wrap64 (((D0 l0 x4_1).f0) - (wrap64 (((D0 l0 (ji25)).f0) - ((D0 l0 (ji28)).f0)))),wrap64 (((D0 l0 x4_1).f1) - (wrap64 (((D0 l0 (ji25)).f1) - ((D0 l0 (ji28)).f1))))]:List Int)) (inner:=[.int .i64 (wrap64 (((D0 l0 x4_1).f0) - (wrap64 (((D0 l0 (ji25)).f0) - ((D0 l0 (ji28)).f0))))),.int .i64 (wrap64 (((D0 l0 x4_1).f1) - (wrap64 (((D0 l0 (ji25)).f1) - ((D0 l0 (ji28)).f1)))))]) (ok:=fun _=>True) (okp:=fun _=>True) ?hr ?hp (fun _ hk=>hk) trivial (Below.refl _ _) (Nat.le_refl _) (by simp) ?_;(case hd=>rfl);(case hg=>rfl);(case hr=>first|(go_simp;done)|(go_simp;rfl));(case hp=>exact(Reps.one (show Kd.M (Kd.int .i64) _ _ _ (wrap64 (((D0 l0 x4_1).f0) - (wrap64 (((D0 l0 (ji25)).f0) - ((D0 l0 (ji28)).f0))))) [.int .i64 (wrap64 (((D0 l0 x4_1).f0) - (wrap64 (((D0 l0 (ji25)).f0) - ((D0 l0 (ji28)).f0)))))] from rfl) (Reps.one (show Kd.M (Kd.int .i64) _ _ _ (wrap64 (((D0 l0 x4_1).f1) - (wrap64 (((D0 l0 (ji25)).f1) - ((D0 l0 (ji28)).f1))))) [.int .i64 (wrap64 (((D0 l0 x4_1).f1) - (wrap64 (((D0 l0 (ji25)).f1) - ((D0 l0 (ji28)).f1)))))] from rfl) (Reps.none _ _))));intro M4 U1 M0 hb hg_ hnew_;clear hg_ hnew_;(first|rw [←bg0.out] at M0|(simp only [Int.reduceToNat] at M0;rw [←bg0.out] at M0));have n_:=pk3 (Kd.R_elder' (ro_ HO_3) (Kd.R_base M0) hb) (Kd.R_lower (Kd.R_new' M0 (Kd.R_lt (ro_ HO_3))) (L0 bl_)) (E0 bl_ hb);clear HO_3 HB;obtain⟨HO_3,C0,HB⟩:=n_;clear hb M0;obtain⟨T0,R0,S1⟩:=Kd.R_slice C0.out;subst S1)|((with_reducible refine X0 (N:=79) rfl ?_);refine Kd.R_lit (Kd.int .i64) _ 3 ?hg (N:=79) ?hd (xs:=([wrap64 (((D0 l0 x4_1).f0) - ((D0 l0 (ji7)).f0)),wrap64 (((D0 l0 x4_1).f1) - ((D0 l0 (ji7)).f1))]:List Int)) (inner:=[.int .i64 (wrap64 (((D0 l0 x4_1).f0) - ((D0 l0 (ji7)).f0))),.int .i64 (wrap64 (((D0 l0 x4_1).f1) - ((D0 l0 (ji7)).f1)))]) (ok:=fun _=>True) (okp:=fun _=>True) ?hr ?hp (fun _ hk=>hk) trivial (Below.refl _ _) (Nat.le_refl _) (by simp) ?_;(case hd=>rfl);(case hg=>rfl);(case hr=>first|(go_simp;done)|(go_simp;rfl));(case hp=>exact(Reps.one (show Kd.M (Kd.int .i64) _ _ _ (wrap64 (((D0 l0 x4_1).f0) - ((D0 l0 (ji7)).f0))) [.int .i64 (wrap64 (((D0 l0 x4_1).f0) - ((D0 l0 (ji7)).f0)))] from rfl) (Reps.one (show Kd.M (Kd.int .i64) _ _ _ (wrap64 (((D0 l0 x4_1).f1) - ((D0 l0 (ji7)).f1))) [.int .i64 (wrap64 (((D0 l0 x4_1).f1) - ((D0 l0 (ji7)).f1)))] from rfl) (Reps.none _ _))));intro M4 U1 M0 hb hg_ hnew_;clear hg_ hnew_;(first|rw [←bj6.out] at M0|(simp only [Int.reduceToNat] at M0;rw [←bj6.out] at M0));have n_:=pk3 (Kd.R_elder' (ro_ HO_3) (Kd.R_base M0) hb) (Kd.R_lower (Kd.R_new' M0 (Kd.R_lt (ro_ HO_3))) (L0 bl_)) (E0 bl_ hb);clear HO_3 HB;obtain⟨HO_3,C0,HB⟩:=n_;clear hb M0;obtain⟨T0,R0,S1⟩:=Kd.R_slice C0.out;subst S1)|((with_reducible refine X0 (N:=79) rfl ?_);refine Kd.R_lit (Kd.int .i64) _ 3 ?hg (N:=79) ?hd (xs:=([(D0 l0 x4_1).f0,(D0 l0 x4_1).f1]:List Int)) (inner:=[.int .i64 ((D0 l0 x4_1).f0),.int .i64 ((D0 l0 x4_1).f1)]) (ok:=fun _=>True) (okp:=fun _=>True) ?hr ?hp (fun _ hk=>hk) trivial (Below.refl _ _) (Nat.le_refl _) (by simp) ?_;(case hd=>rfl);(case hg=>rfl);(case hr=>first|(go_simp;done)|(go_simp;rfl));(case hp=>exact(Reps.one (show Kd.M (Kd.int .i64) _ _ _ ((D0 l0 x4_1).f0) [.int .i64 ((D0 l0 x4_1).f0)] from rfl) (Reps.one (show Kd.M (Kd.int .i64) _ _ _ ((D0 l0 x4_1).f1) [.int .i64 ((D0 l0 x4_1).f1)] from rfl) (Reps.none _ _))));intro M4 U1 M0 hb hg_ hnew_;clear hg_ hnew_;(first|rw [←bg7.out] at M0|(simp only [Int.reduceToNat] at M0;rw [←bg7.out] at M0));have n_:=pk3 (Kd.R_elder' (ro_ HO_3) (Kd.R_base M0) hb) (Kd.R_lower (Kd.R_new' M0 (Kd.R_lt (ro_ HO_3))) (L0 bl_)) (E0 bl_ hb);clear HO_3 HB;obtain⟨HO_3,C0,HB⟩:=n_;clear hb M0;obtain⟨T0,R0,S1⟩:=Kd.R_slice C0.out;subst S1)|((with_reducible refine G1 (b:=.append) (xs:=#[.tmp 76,.tmp 79]) rfl ?_);at_builtin;refine Kd.R_append_rows (Kd.int .i64) (w0:=w) w.heap.size rfl (.tmp 76) (.tmp 79) 22 3 (.int .i64 0) 8 rfl Try.underlying22 ae7 rfl (by decide) (by omega) u3 x3_1 au1 _ _ _ (fun k_=>some k_≠(.slice T0 au1.length R0:Value).ownBlock) (fun _=>False) rfl rfl ?aO ?aR (fun _ _ h=>h) (fun _ h=>h.elim) ?aF ?aB ?aS ?aL ?_;(case aR=>exact cr_ C0);(case aB=>exact bl_);(case aF=>exact(fun k_ hk=>Kd.fresh' (Kd.R_lt (ro_ C0)) k_ hk));(case aO=>exact(rt_ (Kd.R_mono HO_3.out (fun _ hk=>hk.2))));(case aS=>exact(L0 bl_));(case aL=>have:=LMc14.out;omega);intro z5 Z1 ho hb hg hat;rw [←cf6.out] at ho;have n_:=pk3 (Kd.R_after (ok:=(fun _=>True)) (ro_ C0) hg hat) (hb) (ho);clear C0 HB HO_3;obtain⟨C0,HB,Q0⟩:=n_;clear ho hb hg hat)|((with_reducible refine G1 (b:=.append) (xs:=#[.tmp 76,.tmp 79]) rfl ?_);at_builtin;refine Kd.R_append_rows (Kd.int .i64) (w0:=w) w.heap.size rfl (.tmp 76) (.tmp 79) 22 3 (.int .i64 0) 8 rfl Try.underlying22 ae7 rfl (by decide) (by omega) u3 x3_1 aD4 _ _ _ (fun k_=>some k_≠(.slice T0 aD4.length R0:Value).ownBlock) (fun _=>False) rfl rfl ?aO ?aR (fun _ _ h=>h) (fun _ h=>h.elim) ?aF ?aB ?aS ?aL ?_;(case aR=>exact cr_ C0);(case aB=>exact bl_);(case aF=>exact(fun k_ hk=>Kd.fresh' (Kd.R_lt (ro_ C0)) k_ hk));(case aO=>exact(rt_ (Kd.R_mono HO_3.out (fun _ hk=>hk.2))));(case aS=>exact(L0 bl_));(case aL=>have:=LMc19.out;omega);intro z5 Z1 ho hb hg hat;rw [←cp3.out] at ho;have n_:=pk3 (Kd.R_after (ok:=(fun _=>True)) (ro_ C0) hg hat) (hb) (ho);clear C0 HB HO_3;obtain⟨C0,HB,Q0⟩:=n_;clear ho hb hg hat)|((with_reducible refine G1 (b:=.append) (xs:=#[.tmp 76,.tmp 79]) rfl ?_);at_builtin;refine Kd.R_append_rows (Kd.int .i64) (w0:=w) w.heap.size rfl (.tmp 76) (.tmp 79) 22 3 (.int .i64 0) 8 rfl Try.underlying22 ae7 rfl (by decide) (by omega) u3 x3_1 as9 _ _ _ (fun k_=>some k_≠(.slice T0 as9.length R0:Value).ownBlock) (fun _=>False) rfl rfl ?aO ?aR (fun _ _ h=>h) (fun _ h=>h.elim) ?aF ?aB ?aS ?aL ?_;(case aR=>exact cr_ C0);(case aB=>exact bl_);(case aF=>exact(fun k_ hk=>Kd.fresh' (Kd.R_lt (ro_ C0)) k_ hk));(case aO=>exact(rt_ (Kd.R_mono HO_3.out (fun _ hk=>hk.2))));(case aS=>exact(L0 bl_));(case aL=>have:=LMc31.out;omega);intro z5 Z1 ho hb hg hat;rw [←cj2.out] at ho;have n_:=pk3 (Kd.R_after (ok:=(fun _=>True)) (ro_ C0) hg hat) (hb) (ho);clear C0 HB HO_3;obtain⟨C0,HB,Q0⟩:=n_;clear ho hb hg hat)|((with_reducible refine G1 (b:=.append) (xs:=#[.tmp 76,.tmp 79]) rfl ?_);at_builtin;refine Kd.R_append_rows (Kd.int .i64) (w0:=w) w.heap.size rfl (.tmp 76) (.tmp 79) 22 3 (.int .i64 0) 8 rfl Try.underlying22 ae7 rfl (by decide) (by omega) u3 x3_1 aO9 _ _ _ (fun k_=>some k_≠(.slice T0 aO9.length R0:Value).ownBlock) (fun _=>False) rfl rfl ?aO ?aR (fun _ _ h=>h) (fun _ h=>h.elim) ?aF ?aB ?aS ?aL ?_;(case aR=>exact cr_ C0);(case aB=>exact bl_);(case aF=>exact(fun k_ hk=>Kd.fresh' (Kd.R_lt (ro_ C0)) k_ hk));(case aO=>exact(rt_ (Kd.R_mono HO_3.out (fun _ hk=>hk.2))));(case aS=>exact(L0 bl_));(case aL=>have:=LMc36.out;omega);intro z5 Z1 ho hb hg hat;rw [←cg8.out] at ho;have n_:=pk3 (Kd.R_after (ok:=(fun _=>True)) (ro_ C0) hg hat) (hb) (ho);clear C0 HB HO_3;obtain⟨C0,HB,Q0⟩:=n_;clear ho hb hg hat))
    repeat(go_quiet (first|((with_reducible refine X0 (N:=79) rfl ?_);refine Kd.R_lit (Kd.int .i64) _ 3 ?hg (N:=79) ?hd (xs:=([wrap64 ((wrap64 (((D0 l0 x4_1).f0) - ((D0 l0 (ji7)).f0))) - (wrap64 (((D0 l0 (ji7)).f0) - ((D0 l0 (ji11)).f0)))),wrap64 ((wrap64 (((D0 l0 x4_1).f1) - ((D0 l0 (ji7)).f1))) - (wrap64 (((D0 l0 (ji7)).f1) - ((D0 l0 (ji11)).f1))))]:List Int)) (inner:=[.int .i64 (wrap64 ((wrap64 (((D0 l0 x4_1).f0) - ((D0 l0 (ji7)).f0))) - (wrap64 (((D0 l0 (ji7)).f0) - ((D0 l0 (ji11)).f0))))),.int .i64 (wrap64 ((wrap64 (((D0 l0 x4_1).f1) - ((D0 l0 (ji7)).f1))) - (wrap64 (((D0 l0 (ji7)).f1) - ((D0 l0 (ji11)).f1)))))]) (ok:=fun _=>True) (okp:=fun _=>True) ?hr ?hp (fun _ hk=>hk) trivial (Below.refl _ _) (Nat.le_refl _) (by simp) ?_;(case hd=>rfl);(case hg=>rfl);(case hr=>first|(go_simp;done)|(go_simp;rfl));(case hp=>exact(Reps.one (show Kd.M (Kd.int .i64) _ _ _ (wrap64 ((wrap64 (((D0 l0 x4_1).f0) - ((D0 l0 (ji7)).f0))) - (wrap64 (((D0 l0 (ji7)).f0) - ((D0 l0 (ji11)).f0))))) [.int .i64 (wrap64 ((wrap64 (((D0 l0 x4_1).f0) - ((D0 l0 (ji7)).f0))) - (wrap64 (((D0 l0 (ji7)).f0) - ((D0 l0 (ji11)).f0)))))] from rfl) (Reps.one (show Kd.M (Kd.int .i64) _ _ _ (wrap64 ((wrap64 (((D0 l0 x4_1).f1) - ((D0 l0 (ji7)).f1))) - (wrap64 (((D0 l0 (ji7)).f1) - ((D0 l0 (ji11)).f1))))) [.int .i64 (wrap64 ((wrap64 (((D0 l0 x4_1).f1) - ((D0 l0 (ji7)).f1))) - (wrap64 (((D0 l0 (ji7)).f1) - ((D0 l0 (ji11)).f1)))))] from rfl) (Reps.none _ _))));intro M4 U1 M0 hb hg_ hnew_;clear hg_ hnew_;(first|rw [←bh3.out] at M0|(simp only [Int.reduceToNat] at M0;rw [←bh3.out] at M0));have n_:=pk3 (Kd.R_elder' (ro_ HO_3) (Kd.R_base M0) hb) (Kd.R_lower (Kd.R_new' M0 (Kd.R_lt (ro_ HO_3))) (L0 bl_)) (E0 bl_ hb);clear HO_3 HB;obtain⟨HO_3,C0,HB⟩:=n_;clear hb M0;obtain⟨T0,R0,S1⟩:=Kd.R_slice C0.out;subst S1)|((with_reducible refine X0 (N:=79) rfl ?_);refine Kd.R_lit (Kd.int .i64) _ 3 ?hg (N:=79) ?hd (xs:=([wrap64 (((D0 l0 x4_1).f0) - (wrap64 (((D0 l0 (ji25)).f0) - ((D0 l0 (ji28)).f0)))),wrap64 (((D0 l0 x4_1).f1) - (wrap64 (((D0 l0 (ji25)).f1) - ((D0 l0 (ji28)).f1))))]:List Int)) (inner:=[.int .i64 (wrap64 (((D0 l0 x4_1).f0) - (wrap64 (((D0 l0 (ji25)).f0) - ((D0 l0 (ji28)).f0))))),.int .i64 (wrap64 (((D0 l0 x4_1).f1) - (wrap64 (((D0 l0 (ji25)).f1) - ((D0 l0 (ji28)).f1)))))]) (ok:=fun _=>True) (okp:=fun _=>True) ?hr ?hp (fun _ hk=>hk) trivial (Below.refl _ _) (Nat.le_refl _) (by simp) ?_;(case hd=>rfl);(case hg=>rfl);(case hr=>first|(go_simp;done)|(go_simp;rfl));(case hp=>exact(Reps.one (show Kd.M (Kd.int .i64) _ _ _ (wrap64 (((D0 l0 x4_1).f0) - (wrap64 (((D0 l0 (ji25)).f0) - ((D0 l0 (ji28)).f0))))) [.int .i64 (wrap64 (((D0 l0 x4_1).f0) - (wrap64 (((D0 l0 (ji25)).f0) - ((D0 l0 (ji28)).f0)))))] from rfl) (Reps.one (show Kd.M (Kd.int .i64) _ _ _ (wrap64 (((D0 l0 x4_1).f1) - (wrap64 (((D0 l0 (ji25)).f1) - ((D0 l0 (ji28)).f1))))) [.int .i64 (wrap64 (((D0 l0 x4_1).f1) - (wrap64 (((D0 l0 (ji25)).f1) - ((D0 l0 (ji28)).f1)))))] from rfl) (Reps.none _ _))));intro M4 U1 M0 hb hg_ hnew_;clear hg_ hnew_;(first|rw [←bg0.out] at M0|(simp only [Int.reduceToNat] at M0;rw [←bg0.out] at M0));have n_:=pk3 (Kd.R_elder' (ro_ HO_3) (Kd.R_base M0) hb) (Kd.R_lower (Kd.R_new' M0 (Kd.R_lt (ro_ HO_3))) (L0 bl_)) (E0 bl_ hb);clear HO_3 HB;obtain⟨HO_3,C0,HB⟩:=n_;clear hb M0;obtain⟨T0,R0,S1⟩:=Kd.R_slice C0.out;subst S1)|((with_reducible refine X0 (N:=79) rfl ?_);refine Kd.R_lit (Kd.int .i64) _ 3 ?hg (N:=79) ?hd (xs:=([wrap64 (((D0 l0 x4_1).f0) - ((D0 l0 (ji7)).f0)),wrap64 (((D0 l0 x4_1).f1) - ((D0 l0 (ji7)).f1))]:List Int)) (inner:=[.int .i64 (wrap64 (((D0 l0 x4_1).f0) - ((D0 l0 (ji7)).f0))),.int .i64 (wrap64 (((D0 l0 x4_1).f1) - ((D0 l0 (ji7)).f1)))]) (ok:=fun _=>True) (okp:=fun _=>True) ?hr ?hp (fun _ hk=>hk) trivial (Below.refl _ _) (Nat.le_refl _) (by simp) ?_;(case hd=>rfl);(case hg=>rfl);(case hr=>first|(go_simp;done)|(go_simp;rfl));(case hp=>exact(Reps.one (show Kd.M (Kd.int .i64) _ _ _ (wrap64 (((D0 l0 x4_1).f0) - ((D0 l0 (ji7)).f0))) [.int .i64 (wrap64 (((D0 l0 x4_1).f0) - ((D0 l0 (ji7)).f0)))] from rfl) (Reps.one (show Kd.M (Kd.int .i64) _ _ _ (wrap64 (((D0 l0 x4_1).f1) - ((D0 l0 (ji7)).f1))) [.int .i64 (wrap64 (((D0 l0 x4_1).f1) - ((D0 l0 (ji7)).f1)))] from rfl) (Reps.none _ _))));intro M4 U1 M0 hb hg_ hnew_;clear hg_ hnew_;(first|rw [←bj6.out] at M0|(simp only [Int.reduceToNat] at M0;rw [←bj6.out] at M0));have n_:=pk3 (Kd.R_elder' (ro_ HO_3) (Kd.R_base M0) hb) (Kd.R_lower (Kd.R_new' M0 (Kd.R_lt (ro_ HO_3))) (L0 bl_)) (E0 bl_ hb);clear HO_3 HB;obtain⟨HO_3,C0,HB⟩:=n_;clear hb M0;obtain⟨T0,R0,S1⟩:=Kd.R_slice C0.out;subst S1)|((with_reducible refine X0 (N:=79) rfl ?_);refine Kd.R_lit (Kd.int .i64) _ 3 ?hg (N:=79) ?hd (xs:=([(D0 l0 x4_1).f0,(D0 l0 x4_1).f1]:List Int)) (inner:=[.int .i64 ((D0 l0 x4_1).f0),.int .i64 ((D0 l0 x4_1).f1)]) (ok:=fun _=>True) (okp:=fun _=>True) ?hr ?hp (fun _ hk=>hk) trivial (Below.refl _ _) (Nat.le_refl _) (by simp) ?_;(case hd=>rfl);(case hg=>rfl);(case hr=>first|(go_simp;done)|(go_simp;rfl));(case hp=>exact(Reps.one (show Kd.M (Kd.int .i64) _ _ _ ((D0 l0 x4_1).f0) [.int .i64 ((D0 l0 x4_1).f0)] from rfl) (Reps.one (show Kd.M (Kd.int .i64) _ _ _ ((D0 l0 x4_1).f1) [.int .i64 ((D0 l0 x4_1).f1)] from rfl) (Reps.none _ _))));intro M4 U1 M0 hb hg_ hnew_;clear hg_ hnew_;(first|rw [←bg7.out] at M0|(simp only [Int.reduceToNat] at M0;rw [←bg7.out] at M0));have n_:=pk3 (Kd.R_elder' (ro_ HO_3) (Kd.R_base M0) hb) (Kd.R_lower (Kd.R_new' M0 (Kd.R_lt (ro_ HO_3))) (L0 bl_)) (E0 bl_ hb);clear HO_3 HB;obtain⟨HO_3,C0,HB⟩:=n_;clear hb M0;obtain⟨T0,R0,S1⟩:=Kd.R_slice C0.out;subst S1)|((with_reducible refine G1 (b:=.append) (xs:=#[.tmp 76,.tmp 79]) rfl ?_);at_builtin;refine Kd.R_append_rows (Kd.int .i64) (w0:=w) w.heap.size rfl (.tmp 76) (.tmp 79) 22 3 (.int .i64 0) 8 rfl Try.underlying22 ae7 rfl (by decide) (by omega) u3 x3_1 au1 _ _ _ (fun k_=>some k_≠(.slice T0 au1.length R0:Value).ownBlock) (fun _=>False) rfl rfl ?aO ?aR (fun _ _ h=>h) (fun _ h=>h.elim) ?aF ?aB ?aS ?aL ?_;(case aR=>exact cr_ C0);(case aB=>exact bl_);(case aF=>exact(fun k_ hk=>Kd.fresh' (Kd.R_lt (ro_ C0)) k_ hk));(case aO=>exact(rt_ (Kd.R_mono HO_3.out (fun _ hk=>hk.2))));(case aS=>exact(L0 bl_));(case aL=>have:=LMc14.out;omega);intro z5 Z1 ho hb hg hat;rw [←cf6.out] at ho;have n_:=pk3 (Kd.R_after (ok:=(fun _=>True)) (ro_ C0) hg hat) (hb) (ho);clear C0 HB HO_3;obtain⟨C0,HB,Q0⟩:=n_;clear ho hb hg hat)|((with_reducible refine G1 (b:=.append) (xs:=#[.tmp 76,.tmp 79]) rfl ?_);at_builtin;refine Kd.R_append_rows (Kd.int .i64) (w0:=w) w.heap.size rfl (.tmp 76) (.tmp 79) 22 3 (.int .i64 0) 8 rfl Try.underlying22 ae7 rfl (by decide) (by omega) u3 x3_1 aD4 _ _ _ (fun k_=>some k_≠(.slice T0 aD4.length R0:Value).ownBlock) (fun _=>False) rfl rfl ?aO ?aR (fun _ _ h=>h) (fun _ h=>h.elim) ?aF ?aB ?aS ?aL ?_;(case aR=>exact cr_ C0);(case aB=>exact bl_);(case aF=>exact(fun k_ hk=>Kd.fresh' (Kd.R_lt (ro_ C0)) k_ hk));(case aO=>exact(rt_ (Kd.R_mono HO_3.out (fun _ hk=>hk.2))));(case aS=>exact(L0 bl_));(case aL=>have:=LMc19.out;omega);intro z5 Z1 ho hb hg hat;rw [←cp3.out] at ho;have n_:=pk3 (Kd.R_after (ok:=(fun _=>True)) (ro_ C0) hg hat) (hb) (ho);clear C0 HB HO_3;obtain⟨C0,HB,Q0⟩:=n_;clear ho hb hg hat)|((with_reducible refine G1 (b:=.append) (xs:=#[.tmp 76,.tmp 79]) rfl ?_);at_builtin;refine Kd.R_append_rows (Kd.int .i64) (w0:=w) w.heap.size rfl (.tmp 76) (.tmp 79) 22 3 (.int .i64 0) 8 rfl Try.underlying22 ae7 rfl (by decide) (by omega) u3 x3_1 as9 _ _ _ (fun k_=>some k_≠(.slice T0 as9.length R0:Value).ownBlock) (fun _=>False) rfl rfl ?aO ?aR (fun _ _ h=>h) (fun _ h=>h.elim) ?aF ?aB ?aS ?aL ?_;(case aR=>exact cr_ C0);(case aB=>exact bl_);(case aF=>exact(fun k_ hk=>Kd.fresh' (Kd.R_lt (ro_ C0)) k_ hk));(case aO=>exact(rt_ (Kd.R_mono HO_3.out (fun _ hk=>hk.2))));(case aS=>exact(L0 bl_));(case aL=>have:=LMc31.out;omega);intro z5 Z1 ho hb hg hat;rw [←cj2.out] at ho;have n_:=pk3 (Kd.R_after (ok:=(fun _=>True)) (ro_ C0) hg hat) (hb) (ho);clear C0 HB HO_3;obtain⟨C0,HB,Q0⟩:=n_;clear ho hb hg hat)|((with_reducible refine G1 (b:=.append) (xs:=#[.tmp 76,.tmp 79]) rfl ?_);at_builtin;refine Kd.R_append_rows (Kd.int .i64) (w0:=w) w.heap.size rfl (.tmp 76) (.tmp 79) 22 3 (.int .i64 0) 8 rfl Try.underlying22 ae7 rfl (by decide) (by omega) u3 x3_1 aO9 _ _ _ (fun k_=>some k_≠(.slice T0 aO9.length R0:Value).ownBlock) (fun _=>False) rfl rfl ?aO ?aR (fun _ _ h=>h) (fun _ h=>h.elim) ?aF ?aB ?aS ?aL ?_;(case aR=>exact cr_ C0);(case aB=>exact bl_);(case aF=>exact(fun k_ hk=>Kd.fresh' (Kd.R_lt (ro_ C0)) k_ hk));(case aO=>exact(rt_ (Kd.R_mono HO_3.out (fun _ hk=>hk.2))));(case aS=>exact(L0 bl_));(case aL=>have:=LMc36.out;omega);intro z5 Z1 ho hb hg hat;rw [←cg8.out] at ho;have n_:=pk3 (Kd.R_after (ok:=(fun _=>True)) (ro_ C0) hg hat) (hb) (ho);clear C0 HB HO_3;obtain⟨C0,HB,Q0⟩:=n_;clear ho hb hg hat));try go_wp2_with (first|((with_reducible refine X0 (N:=79) rfl ?_);refine Kd.R_lit (Kd.int .i64) _ 3 ?hg (N:=79) ?hd (xs:=([wrap64 ((wrap64 (((D0 l0 x4_1).f0) - ((D0 l0 (ji7)).f0))) - (wrap64 (((D0 l0 (ji7)).f0) - ((D0 l0 (ji11)).f0)))),wrap64 ((wrap64 (((D0 l0 x4_1).f1) - ((D0 l0 (ji7)).f1))) - (wrap64 (((D0 l0 (ji7)).f1) - ((D0 l0 (ji11)).f1))))]:List Int)) (inner:=[.int .i64 (wrap64 ((wrap64 (((D0 l0 x4_1).f0) - ((D0 l0 (ji7)).f0))) - (wrap64 (((D0 l0 (ji7)).f0) - ((D0 l0 (ji11)).f0))))),.int .i64 (wrap64 ((wrap64 (((D0 l0 x4_1).f1) - ((D0 l0 (ji7)).f1))) - (wrap64 (((D0 l0 (ji7)).f1) - ((D0 l0 (ji11)).f1)))))]) (ok:=fun _=>True) (okp:=fun _=>True) ?hr ?hp (fun _ hk=>hk) trivial (Below.refl _ _) (Nat.le_refl _) (by simp) ?_;(case hd=>rfl);(case hg=>rfl);(case hr=>first|(go_simp;done)|(go_simp;rfl));(case hp=>exact(Reps.one (show Kd.M (Kd.int .i64) _ _ _ (wrap64 ((wrap64 (((D0 l0 x4_1).f0) - ((D0 l0 (ji7)).f0))) - (wrap64 (((D0 l0 (ji7)).f0) - ((D0 l0 (ji11)).f0))))) [.int .i64 (wrap64 ((wrap64 (((D0 l0 x4_1).f0) - ((D0 l0 (ji7)).f0))) - (wrap64 (((D0 l0 (ji7)).f0) - ((D0 l0 (ji11)).f0)))))] from rfl) (Reps.one (show Kd.M (Kd.int .i64) _ _ _ (wrap64 ((wrap64 (((D0 l0 x4_1).f1) - ((D0 l0 (ji7)).f1))) - (wrap64 (((D0 l0 (ji7)).f1) - ((D0 l0 (ji11)).f1))))) [.int .i64 (wrap64 ((wrap64 (((D0 l0 x4_1).f1) - ((D0 l0 (ji7)).f1))) - (wrap64 (((D0 l0 (ji7)).f1) - ((D0 l0 (ji11)).f1)))))] from rfl) (Reps.none _ _))));intro M4 U1 M0 hb hg_ hnew_;clear hg_ hnew_;(first|rw [←bh3.out] at M0|(simp only [Int.reduceToNat] at M0;rw [←bh3.out] at M0));have n_:=pk3 (Kd.R_elder' (ro_ HO_3) (Kd.R_base M0) hb) (Kd.R_lower (Kd.R_new' M0 (Kd.R_lt (ro_ HO_3))) (L0 bl_)) (E0 bl_ hb);clear HO_3 HB;obtain⟨HO_3,C0,HB⟩:=n_;clear hb M0;obtain⟨T0,R0,S1⟩:=Kd.R_slice C0.out;subst S1)|((with_reducible refine X0 (N:=79) rfl ?_);refine Kd.R_lit (Kd.int .i64) _ 3 ?hg (N:=79) ?hd (xs:=([wrap64 (((D0 l0 x4_1).f0) - (wrap64 (((D0 l0 (ji25)).f0) - ((D0 l0 (ji28)).f0)))),wrap64 (((D0 l0 x4_1).f1) - (wrap64 (((D0 l0 (ji25)).f1) - ((D0 l0 (ji28)).f1))))]:List Int)) (inner:=[.int .i64 (wrap64 (((D0 l0 x4_1).f0) - (wrap64 (((D0 l0 (ji25)).f0) - ((D0 l0 (ji28)).f0))))),.int .i64 (wrap64 (((D0 l0 x4_1).f1) - (wrap64 (((D0 l0 (ji25)).f1) - ((D0 l0 (ji28)).f1)))))]) (ok:=fun _=>True) (okp:=fun _=>True) ?hr ?hp (fun _ hk=>hk) trivial (Below.refl _ _) (Nat.le_refl _) (by simp) ?_;(case hd=>rfl);(case hg=>rfl);(case hr=>first|(go_simp;done)|(go_simp;rfl));(case hp=>exact(Reps.one (show Kd.M (Kd.int .i64) _ _ _ (wrap64 (((D0 l0 x4_1).f0) - (wrap64 (((D0 l0 (ji25)).f0) - ((D0 l0 (ji28)).f0))))) [.int .i64 (wrap64 (((D0 l0 x4_1).f0) - (wrap64 (((D0 l0 (ji25)).f0) - ((D0 l0 (ji28)).f0)))))] from rfl) (Reps.one (show Kd.M (Kd.int .i64) _ _ _ (wrap64 (((D0 l0 x4_1).f1) - (wrap64 (((D0 l0 (ji25)).f1) - ((D0 l0 (ji28)).f1))))) [.int .i64 (wrap64 (((D0 l0 x4_1).f1) - (wrap64 (((D0 l0 (ji25)).f1) - ((D0 l0 (ji28)).f1)))))] from rfl) (Reps.none _ _))));intro M4 U1 M0 hb hg_ hnew_;clear hg_ hnew_;(first|rw [←bg0.out] at M0|(simp only [Int.reduceToNat] at M0;rw [←bg0.out] at M0));have n_:=pk3 (Kd.R_elder' (ro_ HO_3) (Kd.R_base M0) hb) (Kd.R_lower (Kd.R_new' M0 (Kd.R_lt (ro_ HO_3))) (L0 bl_)) (E0 bl_ hb);clear HO_3 HB;obtain⟨HO_3,C0,HB⟩:=n_;clear hb M0;obtain⟨T0,R0,S1⟩:=Kd.R_slice C0.out;subst S1)|((with_reducible refine X0 (N:=79) rfl ?_);refine Kd.R_lit (Kd.int .i64) _ 3 ?hg (N:=79) ?hd (xs:=([wrap64 (((D0 l0 x4_1).f0) - ((D0 l0 (ji7)).f0)),wrap64 (((D0 l0 x4_1).f1) - ((D0 l0 (ji7)).f1))]:List Int)) (inner:=[.int .i64 (wrap64 (((D0 l0 x4_1).f0) - ((D0 l0 (ji7)).f0))),.int .i64 (wrap64 (((D0 l0 x4_1).f1) - ((D0 l0 (ji7)).f1)))]) (ok:=fun _=>True) (okp:=fun _=>True) ?hr ?hp (fun _ hk=>hk) trivial (Below.refl _ _) (Nat.le_refl _) (by simp) ?_;(case hd=>rfl);(case hg=>rfl);(case hr=>first|(go_simp;done)|(go_simp;rfl));(case hp=>exact(Reps.one (show Kd.M (Kd.int .i64) _ _ _ (wrap64 (((D0 l0 x4_1).f0) - ((D0 l0 (ji7)).f0))) [.int .i64 (wrap64 (((D0 l0 x4_1).f0) - ((D0 l0 (ji7)).f0)))] from rfl) (Reps.one (show Kd.M (Kd.int .i64) _ _ _ (wrap64 (((D0 l0 x4_1).f1) - ((D0 l0 (ji7)).f1))) [.int .i64 (wrap64 (((D0 l0 x4_1).f1) - ((D0 l0 (ji7)).f1)))] from rfl) (Reps.none _ _))));intro M4 U1 M0 hb hg_ hnew_;clear hg_ hnew_;(first|rw [←bj6.out] at M0|(simp only [Int.reduceToNat] at M0;rw [←bj6.out] at M0));have n_:=pk3 (Kd.R_elder' (ro_ HO_3) (Kd.R_base M0) hb) (Kd.R_lower (Kd.R_new' M0 (Kd.R_lt (ro_ HO_3))) (L0 bl_)) (E0 bl_ hb);clear HO_3 HB;obtain⟨HO_3,C0,HB⟩:=n_;clear hb M0;obtain⟨T0,R0,S1⟩:=Kd.R_slice C0.out;subst S1)|((with_reducible refine X0 (N:=79) rfl ?_);refine Kd.R_lit (Kd.int .i64) _ 3 ?hg (N:=79) ?hd (xs:=([(D0 l0 x4_1).f0,(D0 l0 x4_1).f1]:List Int)) (inner:=[.int .i64 ((D0 l0 x4_1).f0),.int .i64 ((D0 l0 x4_1).f1)]) (ok:=fun _=>True) (okp:=fun _=>True) ?hr ?hp (fun _ hk=>hk) trivial (Below.refl _ _) (Nat.le_refl _) (by simp) ?_;(case hd=>rfl);(case hg=>rfl);(case hr=>first|(go_simp;done)|(go_simp;rfl));(case hp=>exact(Reps.one (show Kd.M (Kd.int .i64) _ _ _ ((D0 l0 x4_1).f0) [.int .i64 ((D0 l0 x4_1).f0)] from rfl) (Reps.one (show Kd.M (Kd.int .i64) _ _ _ ((D0 l0 x4_1).f1) [.int .i64 ((D0 l0 x4_1).f1)] from rfl) (Reps.none _ _))));intro M4 U1 M0 hb hg_ hnew_;clear hg_ hnew_;(first|rw [←bg7.out] at M0|(simp only [Int.reduceToNat] at M0;rw [←bg7.out] at M0));have n_:=pk3 (Kd.R_elder' (ro_ HO_3) (Kd.R_base M0) hb) (Kd.R_lower (Kd.R_new' M0 (Kd.R_lt (ro_ HO_3))) (L0 bl_)) (E0 bl_ hb);clear HO_3 HB;obtain⟨HO_3,C0,HB⟩:=n_;clear hb M0;obtain⟨T0,R0,S1⟩:=Kd.R_slice C0.out;subst S1)|((with_reducible refine G1 (b:=.append) (xs:=#[.tmp 76,.tmp 79]) rfl ?_);at_builtin;refine Kd.R_append_rows (Kd.int .i64) (w0:=w) w.heap.size rfl (.tmp 76) (.tmp 79) 22 3 (.int .i64 0) 8 rfl Try.underlying22 ae7 rfl (by decide) (by omega) u3 x3_1 au1 _ _ _ (fun k_=>some k_≠(.slice T0 au1.length R0:Value).ownBlock) (fun _=>False) rfl rfl ?aO ?aR (fun _ _ h=>h) (fun _ h=>h.elim) ?aF ?aB ?aS ?aL ?_;(case aR=>exact cr_ C0);(case aB=>exact bl_);(case aF=>exact(fun k_ hk=>Kd.fresh' (Kd.R_lt (ro_ C0)) k_ hk));(case aO=>exact(rt_ (Kd.R_mono HO_3.out (fun _ hk=>hk.2))));(case aS=>exact(L0 bl_));(case aL=>have:=LMc14.out;omega);intro z5 Z1 ho hb hg hat;rw [←cf6.out] at ho;have n_:=pk3 (Kd.R_after (ok:=(fun _=>True)) (ro_ C0) hg hat) (hb) (ho);clear C0 HB HO_3;obtain⟨C0,HB,Q0⟩:=n_;clear ho hb hg hat)|((with_reducible refine G1 (b:=.append) (xs:=#[.tmp 76,.tmp 79]) rfl ?_);at_builtin;refine Kd.R_append_rows (Kd.int .i64) (w0:=w) w.heap.size rfl (.tmp 76) (.tmp 79) 22 3 (.int .i64 0) 8 rfl Try.underlying22 ae7 rfl (by decide) (by omega) u3 x3_1 aD4 _ _ _ (fun k_=>some k_≠(.slice T0 aD4.length R0:Value).ownBlock) (fun _=>False) rfl rfl ?aO ?aR (fun _ _ h=>h) (fun _ h=>h.elim) ?aF ?aB ?aS ?aL ?_;(case aR=>exact cr_ C0);(case aB=>exact bl_);(case aF=>exact(fun k_ hk=>Kd.fresh' (Kd.R_lt (ro_ C0)) k_ hk));(case aO=>exact(rt_ (Kd.R_mono HO_3.out (fun _ hk=>hk.2))));(case aS=>exact(L0 bl_));(case aL=>have:=LMc19.out;omega);intro z5 Z1 ho hb hg hat;rw [←cp3.out] at ho;have n_:=pk3 (Kd.R_after (ok:=(fun _=>True)) (ro_ C0) hg hat) (hb) (ho);clear C0 HB HO_3;obtain⟨C0,HB,Q0⟩:=n_;clear ho hb hg hat)|((with_reducible refine G1 (b:=.append) (xs:=#[.tmp 76,.tmp 79]) rfl ?_);at_builtin;refine Kd.R_append_rows (Kd.int .i64) (w0:=w) w.heap.size rfl (.tmp 76) (.tmp 79) 22 3 (.int .i64 0) 8 rfl Try.underlying22 ae7 rfl (by decide) (by omega) u3 x3_1 as9 _ _ _ (fun k_=>some k_≠(.slice T0 as9.length R0:Value).ownBlock) (fun _=>False) rfl rfl ?aO ?aR (fun _ _ h=>h) (fun _ h=>h.elim) ?aF ?aB ?aS ?aL ?_;(case aR=>exact cr_ C0);(case aB=>exact bl_);(case aF=>exact(fun k_ hk=>Kd.fresh' (Kd.R_lt (ro_ C0)) k_ hk));(case aO=>exact(rt_ (Kd.R_mono HO_3.out (fun _ hk=>hk.2))));(case aS=>exact(L0 bl_));(case aL=>have:=LMc31.out;omega);intro z5 Z1 ho hb hg hat;rw [←cj2.out] at ho;have n_:=pk3 (Kd.R_after (ok:=(fun _=>True)) (ro_ C0) hg hat) (hb) (ho);clear C0 HB HO_3;obtain⟨C0,HB,Q0⟩:=n_;clear ho hb hg hat)|((with_reducible refine G1 (b:=.append) (xs:=#[.tmp 76,.tmp 79]) rfl ?_);at_builtin;refine Kd.R_append_rows (Kd.int .i64) (w0:=w) w.heap.size rfl (.tmp 76) (.tmp 79) 22 3 (.int .i64 0) 8 rfl Try.underlying22 ae7 rfl (by decide) (by omega) u3 x3_1 aO9 _ _ _ (fun k_=>some k_≠(.slice T0 aO9.length R0:Value).ownBlock) (fun _=>False) rfl rfl ?aO ?aR (fun _ _ h=>h) (fun _ h=>h.elim) ?aF ?aB ?aS ?aL ?_;(case aR=>exact cr_ C0);(case aB=>exact bl_);(case aF=>exact(fun k_ hk=>Kd.fresh' (Kd.R_lt (ro_ C0)) k_ hk));(case aO=>exact(rt_ (Kd.R_mono HO_3.out (fun _ hk=>hk.2))));(case aS=>exact(L0 bl_));(case aL=>have:=LMc36.out;omega);intro z5 Z1 ho hb hg hat;rw [←cg8.out] at ho;have n_:=pk3 (Kd.R_after (ok:=(fun _=>True)) (ro_ C0) hg hat) (hb) (ho);clear C0 HB HO_3;obtain⟨C0,HB,Q0⟩:=n_;clear ho hb hg hat)))
    first
     |go_roundg k1
      case measure=>have:=HK1.out;omega
      first
       |case rel=>exact⟨(dc0),(wrap64 (x4_1+1)),sm_,H',⟨by have:=HK1.out;omega⟩,⟨(rt_ (Kd.R_mono Q0.out (fun _ hk=>trivial)))⟩,⟨bl_⟩⟩
       |case rel=>exact⟨(cT1),(wrap64 (x4_1+1)),sm_,H',⟨by have:=HK1.out;omega⟩,⟨(rt_ (Kd.R_mono Q0.out (fun _ hk=>trivial)))⟩,⟨bl_⟩⟩
       |case rel=>exact⟨(df4),(wrap64 (x4_1+1)),sm_,H',⟨by have:=HK1.out;omega⟩,⟨(rt_ (Kd.R_mono Q0.out (fun _ hk=>trivial)))⟩,⟨bl_⟩⟩
       |case rel=>exact⟨(db7),(wrap64 (x4_1+1)),sm_,H',⟨by have:=HK1.out;omega⟩,⟨(rt_ (Kd.R_mono Q0.out (fun _ hk=>trivial)))⟩,⟨bl_⟩⟩
     |go_ret
      exact⟨_,rf_,(ro_ HO_3),bl_⟩
end Go.Proofs.Ytmddmbagehjdeaa.G
end
section
namespace Go.Proofs.Ytmddmbagehjdeaa.G
open Go.RowKit Go.Proofs.YtmddmbagehjdeaaX Go.Proofs.YtmddmbagehjdeaaW.PrintWords Go.Proofs.YtmddmbagehjdeaaW.PrintLast Go.Proofs.YtmddmbagehjdeaaW.PrintMore
attribute [local go_sem] S3 R3 R4 S4 P3 N3 D4 Y3
def q52.f (a0_0:Int) (a0_1:Int) (a0_2:Int) (l0_3:List Int) (a0_4:Int):Option (Bool):=if(l0_3.length:Int)≤1300 then(some (decide (a0_4≤10400)))else(some false)
theorem q52.calls (a0_0:Int) (a0_1:Int) (a0_2:Int) (A0_3:Option Addr) (c0_3:Nat) (l0_3:List Int) (a0_4:Int) (r:Bool) (w:World) (hr0_3:Kd.C (Kd.int .u8) w A0_3 l0_3.length l0_3) (hc0_3:l0_3.length≤c0_3) (h:q52.f a0_0 a0_1 a0_2 l0_3 a0_4=some r) :
  Calls Try.prog 46 #[.agg #[.int .i64 a0_0,.int .i64 a0_1,.int .i64 a0_2,.slice A0_3 l0_3.length c0_3,.int .i64 a0_4]] w fun e w'=>e=.returned (.bool r)∧Below w.heap.size w w':=by
 have hu69:=Try.underlying69
 have HR0_3:=q5.mk hr0_3
 have HC0_3:=q5.mk hc0_3
 clear hr0_3 hc0_3
 have HB:=q5.mk (Below.refl w.heap.size w)
 have H:(if(l0_3.length:Int)≤1300 then(some (decide (a0_4≤10400)))else(some false))=some r:=h
 clear h
 by_cases c2:(l0_3.length:Int)≤1300
 focus
  rw [if_pos c2] at H
  have c2b0:decide ((l0_3.length:Int)≤1300)=true:=decide_eq_true c2
  have c2b1:decide (l0_3.length≤1300)=true:=decide_eq_true (by omega)
  clear c2
  obtain rfl:=Option.some.inj H
 rotate_left
 focus
  rw [if_neg c2] at H
  have c2b0:decide ((l0_3.length:Int)≤1300)=false:=decide_eq_false c2
  have c2b1:decide (l0_3.length≤1300)=false:=decide_eq_false (by omega)
  clear c2
  obtain rfl:=Option.some.inj H
 all_goals
  go_enter Try.func46,Try.ntmps46
  go_wp2_with (first|((with_reducible refine X0 (N:=1) rfl ?_);refine L2 1 #[.int .i64 a0_0,.int .i64 a0_1,.int .i64 a0_2,.slice A0_3 l0_3.length c0_3,.int .i64 a0_4] 69 ?_;intro B0 hg U1 hbox hb;have n_:=pk4 (E0 bl_ hb) (hbox) ((ge_ hg bl_:w.heap.size≤B0)) ((ge_ hg bl_:w.heap.size≤B0));clear HB;obtain⟨HB,o0,C2,F5⟩:=n_;clear hb hbox hg;have Y2:U1.cell? ⟨B0,0,none⟩=some (.int .i64 a0_0):=(m0 o0.out 0).trans rfl;have z3:U1.cell? ⟨B0,1,none⟩=some (.int .i64 a0_1):=(m0 o0.out 1).trans rfl;have V8:U1.cell? ⟨B0,2,none⟩=some (.int .i64 a0_2):=(m0 o0.out 2).trans rfl;have P9:U1.cell? ⟨B0,3,none⟩=some (.slice A0_3 l0_3.length c0_3):=(m0 o0.out 3).trans rfl;have O9:U1.cell? ⟨B0,4,none⟩=some (.int .i64 a0_4):=(m0 o0.out 4).trans rfl;have D3:=t0 o0.out 0;have Z2:=t0 o0.out 1;have l9:=t0 o0.out 2;have S9:=t0 o0.out 3;have R9:=t0 o0.out 4))
  go_ret
  exact⟨rf_,bl_⟩
def q40.l0:Nat→List Int→List Int→Int→Option (Bool)
 |0,_,_,_=>none
 |k+1,x0,x1,x5=>if x5<(x0.length:Int)then(if 0≤x5 then(if x5<(x1.length:Int)then(if(rd x0 x5)=(rd x1 x5)then(q40.l0 k x0 x1 (wrap64 (x5+1)))else(some false))else(none))else(none))else(some true)
def q40.f (k:Nat) (l0:List Int) (l1:List Int):Option (Bool):=if(l0.length:Int)=(l1.length:Int)then(q40.l0 k l0 l1 0)else(some false)
theorem q40.calls (k:Nat) (A0:Option Addr) (c0:Nat) (l0:List Int) (A1:Option Addr) (c1:Nat) (l1:List Int) (r:Bool) (w:World) (hr0:Kd.C (Kd.int .i64) w A0 l0.length l0) (hc0:l0.length≤c0) (hr1:Kd.C (Kd.int .i64) w A1 l1.length l1) (hc1:l1.length≤c1) (h:q40.f k l0 l1=some r) :
  Calls Try.prog 79 #[.slice A0 l0.length c0,.slice A1 l1.length c1] w fun e w'=>e=.returned (.bool r)∧L1 w w':=by
 have HR0:=q5.mk hr0
 have HC0:=q5.mk hc0
 clear hr0 hc0
 have HR1:=q5.mk hr1
 have HC1:=q5.mk hc1
 clear hr1 hc1
 have H:(if(l0.length:Int)=(l1.length:Int)then(q40.l0 k l0 l1 0)else(some false))=some r:=h
 clear h
 by_cases c3:(l0.length:Int)=(l1.length:Int)
 ·rw [if_pos c3] at H
  have c3b0:((l0.length:Int) == (l1.length:Int))=true:=beq_iff_eq.mpr c3
  have c3b1:((l0.length:Int) != (l1.length:Int))=false:=bne_eq_false_iff_eq.mpr c3
  have c3b2:(l0.length == l1.length)=true:=by first|simpa using c3|(simp at c3 ⊢;omega)
  clear c3
  have H':=q5.mk H
  clear H
  go_enter Try.func79,Try.ntmps79
  go_wp2
  repeat(go_quiet (fail);try go_wp2)
  go_loopg [5] k (fun kq v5 w'=>∃ (x5_1:Int),v5=.int .i64 x5_1∧q5 (q40.l0 kq l0 l1 x5_1=some r)∧q5 (kq≤k)∧L1 w w')
  case atStart=>exact⟨(0),sm_,H',⟨Nat.le_refl _⟩,by repeat(first|exact L1.refl _|apply L1.step)⟩
  case round =>
   clear H'
   try clear c3
   try clear c3b0
   try clear c3b1
   try clear c3b2
   obtain⟨x5_1,rfl,HA,HK1,⟨m1,rfl⟩⟩:=hrel
   cases gk with
   |zero=>exact absurd HA.out (by simp [q40.l0])
   |succ k1 =>
    have H:=HA.out
    clear HA
    simp only [q40.l0] at H
    replace H:=dle H
    rcases H with⟨c4b0,H⟩|⟨c4b0,H⟩
    focus
     replace H:=dle H
     rcases H with⟨c5b0,H⟩|⟨c5b0,H⟩
     rotate_left
     ·exact absurd H (by simp)
     replace H:=dle H
     rcases H with⟨c6b0,H⟩|⟨c6b0,H⟩
     rotate_left
     ·exact absurd H (by simp)
     replace H:=deqn H
     rcases H with⟨c7b0,c7b1,H⟩|⟨c7b0,c7b1,c7,H⟩
     focus
      have H':=q5.mk H
      clear H
      have bL0:0≤(x5_1:Int):=dc_
      have bK2:x5_1<(l0.length:Int):=dc_
      obtain⟨de2,cO7,ct3⟩:=Kd.at_int HR0.out x5_1 bL0 bK2
      cases cO7
      replace bL0:=eq_true bL0
      replace bK2:=eq_true bK2
      have bR5:0≤(x5_1:Int):=dc_
      have bL5:x5_1<(l1.length:Int):=dc_
      obtain⟨cV2,cE9,cx2⟩:=Kd.at_int HR1.out x5_1 bR5 bL5
      cases cE9
      replace bR5:=eq_true bR5
      replace bL5:=eq_true bL5
     rotate_left
     focus
      obtain rfl:=Option.some.inj H
      have bL0:0≤(x5_1:Int):=dc_
      have bK2:x5_1<(l0.length:Int):=dc_
      obtain⟨de2,cO7,ct3⟩:=Kd.at_int HR0.out x5_1 bL0 bK2
      cases cO7
      replace bL0:=eq_true bL0
      replace bK2:=eq_true bK2
      have bR5:0≤(x5_1:Int):=dc_
      have bL5:x5_1<(l1.length:Int):=dc_
      obtain⟨cV2,cE9,cx2⟩:=Kd.at_int HR1.out x5_1 bR5 bL5
      cases cE9
      replace bR5:=eq_true bR5
      replace bL5:=eq_true bL5
    rotate_left 2
    focus
     obtain rfl:=Option.some.inj H
    all_goals
     go_wp2
     repeat(go_quiet (fail);try go_wp2)
     first
      |go_roundg k1
       case measure=>have:=HK1.out;omega
       case rel=>exact⟨(wrap64 (x5_1+1)),sm_,H',⟨by have:=HK1.out;omega⟩,by repeat(first|exact L1.refl _|apply L1.step)⟩
      |go_ret
       exact⟨by first|rfl|(simp;done)|(simp [*];done),by repeat(first|exact L1.refl _|apply L1.step)⟩
 rw [if_neg c3] at H
 have c3b0:((l0.length:Int) == (l1.length:Int))=false:=beq_eq_false_iff_ne.mpr c3
 have c3b1:((l0.length:Int) != (l1.length:Int))=true:=bne_iff_ne.mpr c3
 have c3b2:(l0.length == l1.length)=false:=by first|simpa using c3|(simp at c3 ⊢;omega)
 obtain rfl:=Option.some.inj H
 go_enter Try.func79,Try.ntmps79
 go_wp2
 repeat(go_quiet (fail);try go_wp2)
 go_ret
 exact⟨by first|rfl|(simp;done)|(simp [*];done),by repeat(first|exact L1.refl _|apply L1.step)⟩
end Go.Proofs.Ytmddmbagehjdeaa.G
end
section
namespace Go.Proofs.Ytmddmbagehjdeaa.G
open Go.RowKit Go.Proofs.YtmddmbagehjdeaaX Go.Proofs.YtmddmbagehjdeaaW.PrintWords Go.Proofs.YtmddmbagehjdeaaW.PrintLast Go.Proofs.YtmddmbagehjdeaaW.PrintMore
attribute [local go_sem] S3 R3 R4 S4 P3 N3 D4 Y3
def q66.f (l0_0:List Int) (a0_1:Int):Option (Bool):=if a0_1<0 then(some false)else(if a0_1>131072 then(some false)else(if(l0_0.length:Int)=(wrap64 (Int.tdiv (wrap64 (a0_1+7)) 8))then(if(Int.tmod a0_1 8)=0 then(some true)else(if 0≤(wrap64 ((l0_0.length:Int) - 1))then(if(wrap64 ((l0_0.length:Int) - 1))<(l0_0.length:Int)then(if 0≤(IntKind.u64.wrap (wrap64 (8 - (Int.tmod a0_1 8))))then(if(shl .i64 1 (IntKind.u64.wrap (wrap64 (8 - (Int.tmod a0_1 8)))))=0 then(none)else(some ((Int.tmod (wrap64 (rd l0_0 (wrap64 ((l0_0.length:Int) - 1)))) (shl .i64 1 (IntKind.u64.wrap (wrap64 (8 - (Int.tmod a0_1 8)))))) == 0)))else(none))else(none))else(none)))else(some false)))
theorem q66.calls (A0_0:Option Addr) (c0_0:Nat) (l0_0:List Int) (a0_1:Int) (r:Bool) (w:World) (hr0_0:Kd.C (Kd.int .u8) w A0_0 l0_0.length l0_0) (hc0_0:l0_0.length≤c0_0) (h:q66.f l0_0 a0_1=some r) :
  Calls Try.prog 22 #[.agg #[.slice A0_0 l0_0.length c0_0,.int .i64 a0_1]] w fun e w'=>e=.returned (.bool r)∧Below w.heap.size w w':=by
 have hu25:=Try.underlying25
 have HR0_0:=q5.mk hr0_0
 have HC0_0:=q5.mk hc0_0
 clear hr0_0 hc0_0
 have HB:=q5.mk (Below.refl w.heap.size w)
 have H:(if a0_1<0 then(some false)else(if a0_1>131072 then(some false)else(if(l0_0.length:Int)=(wrap64 (Int.tdiv (wrap64 (a0_1+7)) 8))then(if(Int.tmod a0_1 8)=0 then(some true)else(if 0≤(wrap64 ((l0_0.length:Int) - 1))then(if(wrap64 ((l0_0.length:Int) - 1))<(l0_0.length:Int)then(if 0≤(IntKind.u64.wrap (wrap64 (8 - (Int.tmod a0_1 8))))then(if(shl .i64 1 (IntKind.u64.wrap (wrap64 (8 - (Int.tmod a0_1 8)))))=0 then(none)else(some ((Int.tmod (wrap64 (rd l0_0 (wrap64 ((l0_0.length:Int) - 1)))) (shl .i64 1 (IntKind.u64.wrap (wrap64 (8 - (Int.tmod a0_1 8)))))) == 0)))else(none))else(none))else(none)))else(some false))))=some r:=h
 clear h
 replace H:=dle H
 rcases H with⟨c2b0,H⟩|⟨c2b0,H⟩
 focus
  obtain rfl:=Option.some.inj H
 rotate_left
 focus
  replace H:=dgt H
  rcases H with⟨c5b0,H⟩|⟨c5b0,H⟩
  focus
   obtain rfl:=Option.some.inj H
  rotate_left
  focus
   replace H:=deqn H
   rcases H with⟨c8b0,c8b1,H⟩|⟨c8b0,c8b1,c8,H⟩
   focus
    replace H:=deqn H
    rcases H with⟨c9b0,c9b1,H⟩|⟨c9b0,c9b1,c9,H⟩
    focus
     obtain rfl:=Option.some.inj H
    rotate_left
    focus
     obtain⟨ji12,hji12⟩:∃ j_:Int,(wrap64 ((l0_0.length:Int) - 1))=j_:=⟨_,rfl⟩
     replace H:(if 0≤(ji12)then(if(ji12)<(l0_0.length:Int)then(if 0≤(IntKind.u64.wrap (wrap64 (8 - (Int.tmod a0_1 8))))then(if(shl .i64 1 (IntKind.u64.wrap (wrap64 (8 - (Int.tmod a0_1 8)))))=0 then(none)else(some ((Int.tmod (wrap64 (rd l0_0 (ji12))) (shl .i64 1 (IntKind.u64.wrap (wrap64 (8 - (Int.tmod a0_1 8)))))) == 0)))else(none))else(none))else(none))=some r:=by first|(rw [hji12] at H;exact H)|(simp only [hji12] at H ⊢;exact H)
     have hji12w:(IntKind.i64.wrap ((l0_0.length:Int) - 1))=ji12:=(N0 _).trans hji12
     replace H:=dle H
     rcases H with⟨c13b0,H⟩|⟨c13b0,H⟩
     rotate_left
     ·exact absurd H (by simp)
     replace H:=dle H
     rcases H with⟨c14b0,H⟩|⟨c14b0,H⟩
     rotate_left
     ·exact absurd H (by simp)
     obtain⟨ji15,hji15⟩:∃ j_:Int,(IntKind.u64.wrap (wrap64 (8 - (Int.tmod a0_1 8))))=j_:=⟨_,rfl⟩
     replace H:(if 0≤(ji15)then(if(shl .i64 1 (ji15))=0 then(none)else(some ((Int.tmod (wrap64 (rd l0_0 (ji12))) (shl .i64 1 (ji15))) == 0)))else(none))=some r:=by first|(rw [hji15] at H;exact H)|(simp only [hji15] at H ⊢;exact H)
     by_cases c16:0≤(ji15)
     rotate_left
     ·rw [if_neg c16] at H
      exact absurd H (by simp)
     rw [if_pos c16] at H
     have c16b0:=eq_true c16
     have c16b1:decide (0≤(ji15))=true:=decide_eq_true c16
     clear c16
     obtain⟨ji17,hji17⟩:∃ j_:Int,(shl .i64 1 (ji15))=j_:=⟨_,rfl⟩
     replace H:(if(ji17)=0 then(none)else(some ((Int.tmod (wrap64 (rd l0_0 (ji12))) (ji17)) == 0)))=some r:=by first|(rw [hji17] at H;exact H)|(simp only [hji17] at H ⊢;exact H)
     have hji17_:(IntKind.i64.wrap (1*2 ^ min (ji15).toNat 64))=ji17:=hji17
     have hji17z:(ji15)≤64→(IntKind.i64.wrap (1*2 ^ (ji15).toNat))=ji17:=ad0 hji17
     have hji17u:(IntKind.i64.wrap (2 ^ min (ji15).toNat 64))=ji17:=by have h_:=hji17_;rw [Int.one_mul] at h_;exact h_
     have hji17v:(ji15)≤64→(IntKind.i64.wrap (2 ^ (ji15).toNat))=ji17:=fun hle_=>by have h_:=hji17z hle_;rw [Int.one_mul] at h_;exact h_
     have hji17y:(wrap64 (1*2 ^ min (ji15).toNat 64))=ji17:=(N0 _).symm.trans hji17_
     have hji17x:(ji15)≤64→(wrap64 (1*2 ^ (ji15).toNat))=ji17:=fun h_=>(N0 _).symm.trans (hji17z h_)
     replace H:=deqn H
     rcases H with⟨c18b0,c18b1,H⟩|⟨c18b0,c18b1,c18,H⟩
     ·exact absurd H (by simp)
     obtain rfl:=Option.some.inj H
   rotate_left 2
   focus
    obtain rfl:=Option.some.inj H
 all_goals
  go_enter Try.func22,Try.ntmps22
  go_wp2_with (first|((with_reducible refine X0 (N:=1) rfl ?_);(try(refine O2 (by rfl) ?_;dsimp only));refine L2 1 #[.slice A0_0 l0_0.length c0_0,.int .i64 a0_1] 25 ?_;intro B0 hg U1 hbox hb;have n_:=pk4 (E0 bl_ hb) (hbox) ((ge_ hg bl_:w.heap.size≤B0)) ((ge_ hg bl_:w.heap.size≤B0));clear HB;obtain⟨HB,o0,C2,F5⟩:=n_;clear hb hbox hg;have Y2:U1.cell? ⟨B0,0,none⟩=some (.slice A0_0 l0_0.length c0_0):=(m0 o0.out 0).trans rfl;have z3:U1.cell? ⟨B0,1,none⟩=some (.int .i64 a0_1):=(m0 o0.out 1).trans rfl;have D3:=t0 o0.out 0;have Z2:=t0 o0.out 1;(try(have F3:0≤((ji12):Int):=dc_;have I3:(ji12)<(l0_0.length:Int):=dc_;obtain⟨J1,E6,Z0⟩:=Kd.at_int HR0_0.out (ji12) F3 I3;cases E6;replace Z0:=(HB.out.cell (World.block_lt_of_cell? w _ Z0)).trans Z0;replace F3:=eq_true F3;replace I3:=eq_true I3))))
  repeat(go_quiet (first|((with_reducible refine X0 (N:=1) rfl ?_);(try(refine O2 (by rfl) ?_;dsimp only));refine L2 1 #[.slice A0_0 l0_0.length c0_0,.int .i64 a0_1] 25 ?_;intro B0 hg U1 hbox hb;have n_:=pk4 (E0 bl_ hb) (hbox) ((ge_ hg bl_:w.heap.size≤B0)) ((ge_ hg bl_:w.heap.size≤B0));clear HB;obtain⟨HB,o0,C2,F5⟩:=n_;clear hb hbox hg;have Y2:U1.cell? ⟨B0,0,none⟩=some (.slice A0_0 l0_0.length c0_0):=(m0 o0.out 0).trans rfl;have z3:U1.cell? ⟨B0,1,none⟩=some (.int .i64 a0_1):=(m0 o0.out 1).trans rfl;have D3:=t0 o0.out 0;have Z2:=t0 o0.out 1;(try(have F3:0≤((ji12):Int):=dc_;have I3:(ji12)<(l0_0.length:Int):=dc_;obtain⟨J1,E6,Z0⟩:=Kd.at_int HR0_0.out (ji12) F3 I3;cases E6;replace Z0:=(HB.out.cell (World.block_lt_of_cell? w _ Z0)).trans Z0;replace F3:=eq_true F3;replace I3:=eq_true I3))));try go_wp2_with (first|((with_reducible refine X0 (N:=1) rfl ?_);(try(refine O2 (by rfl) ?_;dsimp only));refine L2 1 #[.slice A0_0 l0_0.length c0_0,.int .i64 a0_1] 25 ?_;intro B0 hg U1 hbox hb;have n_:=pk4 (E0 bl_ hb) (hbox) ((ge_ hg bl_:w.heap.size≤B0)) ((ge_ hg bl_:w.heap.size≤B0));clear HB;obtain⟨HB,o0,C2,F5⟩:=n_;clear hb hbox hg;have Y2:U1.cell? ⟨B0,0,none⟩=some (.slice A0_0 l0_0.length c0_0):=(m0 o0.out 0).trans rfl;have z3:U1.cell? ⟨B0,1,none⟩=some (.int .i64 a0_1):=(m0 o0.out 1).trans rfl;have D3:=t0 o0.out 0;have Z2:=t0 o0.out 1;(try(have F3:0≤((ji12):Int):=dc_;have I3:(ji12)<(l0_0.length:Int):=dc_;obtain⟨J1,E6,Z0⟩:=Kd.at_int HR0_0.out (ji12) F3 I3;cases E6;replace Z0:=(HB.out.cell (World.block_lt_of_cell? w _ Z0)).trans Z0;replace F3:=eq_true F3;replace I3:=eq_true I3)))))
  go_ret
  first
   |exact⟨rf_,bl_⟩
   |exact⟨by first|rfl|(simp [J3,L3]<;>rfl)|(simp only [←hji12,←hji15,←hji17];first|rfl|(simp [J3,L3]<;>rfl))|(simp [*,J3,L3]<;>rfl),bl_⟩
def q44.l0:Nat→List Bool→Int→List Int→Int→Option (List Bool)
 |0,_,_,_,_=>none
 |k+1,x3,x4,bp6,bT8=>if x4<bT8 then(if 0≤(wrap64 (Int.tdiv x4 8))then(if(wrap64 (Int.tdiv x4 8))<(bp6.length:Int)then(if 0≤(IntKind.u64.wrap (wrap64 (7 - (Int.tmod x4 8))))then(if x3.length<140737488355328 then(q44.l0 k (x3++[((Int.tmod (shr .u8 (rd bp6 (wrap64 (Int.tdiv x4 8))) (IntKind.u64.wrap (wrap64 (7 - (Int.tmod x4 8))))) 2) == 1)]) (wrap64 (x4+1)) bp6 bT8)else(none))else(none))else(none))else(none))else(some x3)
def q44.f (k:Nat) (l0_0:List Int) (a0_1:Int):Option (List Bool):=q44.l0 k (([]:List Bool)) 0 l0_0 a0_1
theorem q44.calls (k:Nat) (A0_0:Option Addr) (c0_0:Nat) (l0_0:List Int) (a0_1:Int) (r:List Bool) (w:World) (hr0_0:Kd.C (Kd.int .u8) w A0_0 l0_0.length l0_0) (hc0_0:l0_0.length≤c0_0) (h:q44.f k l0_0 a0_1=some r) :
  Calls Try.prog 23 #[.agg #[.slice A0_0 l0_0.length c0_0,.int .i64 a0_1]] w fun e w'=>∃ v0_:Value,e=.returned (v0_)∧Kd.R Kd.bool 4 w' w.heap.size (fun _=>True) v0_ r∧Below w.heap.size w w':=by
 have hu25:=Try.underlying25
 have HR0_0:=q5.mk hr0_0
 have HC0_0:=q5.mk hc0_0
 clear hr0_0 hc0_0
 have HB:=q5.mk (Below.refl w.heap.size w)
 have H:(q44.l0 k (([]:List Bool)) 0 l0_0 a0_1)=some r:=h
 clear h
 obtain⟨df8,bv3⟩:∃ y_:List Bool,y_=(([]:List Bool)):=⟨_,rfl⟩
 replace H:(q44.l0 k df8 0 l0_0 a0_1)=some r:=by first|(rw [bv3];with_reducible exact H)|(have H2_:=(Option.bind_some _ _).symm.trans H;rw [bv3];with_reducible exact H2_)|(have H2_:=(Option.bind_some _ _).symm.trans H;with_reducible exact H2_)|with_reducible exact H|(rw [bv3];exact H)|exact H
 have cD3:=q5.mk bv3
 clear bv3
 have H':=q5.mk H
 clear H
 go_enter Try.func23,Try.ntmps23
 go_wp2_with (first|((with_reducible refine X0 (N:=1) rfl ?_);refine L2 1 #[.slice A0_0 l0_0.length c0_0,.int .i64 a0_1] 25 ?_;intro cn8 hg w2 hbox hb;have n_:=pk4 (E0 bl_ hb) (hbox) ((ge_ hg bl_:w.heap.size≤cn8)) ((ge_ hg bl_:w.heap.size≤cn8));clear HB;obtain⟨HB,au7,ds5,dq7⟩:=n_;clear hb hbox hg)|((with_reducible refine X0 (N:=5) rfl ?_);refine Kd.R_lit Kd.bool _ 4 ?hg (N:=5) ?hd (xs:=([]:List Bool)) (inner:=[]) (ok:=fun _=>True) (okp:=fun _=>True) ?hr ?hp (fun _ hk=>hk) trivial (Below.refl _ _) (Nat.le_refl _) (by simp) ?_;(case hd=>rfl);(case hg=>rfl);(case hr=>first|(go_simp;done)|(go_simp;rfl));(case hp=>exact(Reps.none _ _));intro du9 w3 ho4 hb hg_ hnew_;clear hg_ hnew_;(first|rw [←cD3.out] at ho4|(simp only [Int.reduceToNat] at ho4;rw [←cD3.out] at ho4));have n_:=pk3 (Kd.R_lower ho4 (L0 bl_)) (F0 (bo_ au7) hb) (E0 bl_ hb);clear au7 HB;obtain⟨cW7,au7,HB⟩:=n_;clear hb ho4))
 go_loopg [3,4] k (fun kq v3 v4 w'=>∃ (x3_1:List Bool) (x4_1:Int),v4=.int .i64 x4_1∧q5 (q44.l0 kq x3_1 x4_1 l0_0 a0_1=some r)∧q5 (kq≤k)∧q5 (Kd.R Kd.bool 4 w' w.heap.size (fun _=>True) v3 x3_1)∧q5 (w'.heap[cn8]?=some (.cells #[(.slice A0_0 l0_0.length c0_0),.int .i64 a0_1] 25 (0,0)))∧q5 (Below w.heap.size w w'))
 case atStart=>exact⟨(df8),(0),sm_,H',⟨Nat.le_refl _⟩,⟨(ro_ cW7)⟩,⟨(bo_ au7)⟩,⟨bl_⟩⟩
 case round =>
  clear H'
  obtain⟨x3_1,x4_1,rfl,HA,HK1,HO_3,au7,HB⟩:=hrel
  cases gk with
  |zero=>exact absurd HA.out (by simp [q44.l0])
  |succ k1 =>
   have H:=HA.out
   clear HA
   simp only [q44.l0] at H
   replace H:=dle H
   rcases H with⟨c5b0,H⟩|⟨c5b0,H⟩
   focus
    obtain⟨ji6,hji6⟩:∃ j_:Int,(wrap64 (Int.tdiv x4_1 8))=j_:=⟨_,rfl⟩
    replace H:(if 0≤(ji6)then(if(ji6)<(l0_0.length:Int)then(if 0≤(IntKind.u64.wrap (wrap64 (7 - (Int.tmod x4_1 8))))then(if x3_1.length<140737488355328 then(q44.l0 k1 (x3_1++[((Int.tmod (shr .u8 (rd l0_0 (ji6)) (IntKind.u64.wrap (wrap64 (7 - (Int.tmod x4_1 8))))) 2) == 1)]) (wrap64 (x4_1+1)) l0_0 a0_1)else(none))else(none))else(none))else(none))=some r:=by first|(rw [hji6] at H;exact H)|(simp only [hji6] at H ⊢;exact H)
    have hji6w:(IntKind.i64.wrap (Int.tdiv x4_1 8))=ji6:=(N0 _).trans hji6
    replace H:=dle H
    rcases H with⟨c7b0,H⟩|⟨c7b0,H⟩
    rotate_left
    ·exact absurd H (by simp)
    replace H:=dle H
    rcases H with⟨c8b0,H⟩|⟨c8b0,H⟩
    rotate_left
    ·exact absurd H (by simp)
    obtain⟨ji9,hji9⟩:∃ j_:Int,(IntKind.u64.wrap (wrap64 (7 - (Int.tmod x4_1 8))))=j_:=⟨_,rfl⟩
    replace H:(if 0≤(ji9)then(if x3_1.length<140737488355328 then(q44.l0 k1 (x3_1++[((Int.tmod (shr .u8 (rd l0_0 (ji6)) (ji9)) 2) == 1)]) (wrap64 (x4_1+1)) l0_0 a0_1)else(none))else(none))=some r:=by first|(rw [hji9] at H;exact H)|(simp only [hji9] at H ⊢;exact H)
    by_cases c10:0≤(ji9)
    rotate_left
    ·rw [if_neg c10] at H
     exact absurd H (by simp)
    rw [if_pos c10] at H
    have c10b0:=eq_true c10
    have c10b1:decide (0≤(ji9))=true:=decide_eq_true c10
    clear c10
    obtain⟨ji11,hji11⟩:∃ j_:Int,(shr .u8 (rd l0_0 (ji6)) (ji9))=j_:=⟨_,rfl⟩
    replace H:(if x3_1.length<140737488355328 then(q44.l0 k1 (x3_1++[((Int.tmod (ji11) 2) == 1)]) (wrap64 (x4_1+1)) l0_0 a0_1)else(none))=some r:=by first|(rw [hji11] at H;exact H)|(simp only [hji11] at H ⊢;exact H)
    have hji11_:((rd l0_0 (ji6)) / 2 ^ min (ji9).toNat 8)=ji11:=hji11
    have hji11z:(ji9)≤8→((rd l0_0 (ji6)) / 2 ^ (ji9).toNat)=ji11:=af8 hji11
    by_cases c12:x3_1.length<140737488355328
    rotate_left
    ·rw [if_neg c12] at H
     exact absurd H (by simp)
    rw [if_pos c12] at H
    have LMc12:=q5.mk c12
    clear c12
    obtain⟨cY3,by5⟩:∃ y_:List Bool,y_=(x3_1++[((Int.tmod (ji11) 2) == 1)]):=⟨_,rfl⟩
    replace H:(q44.l0 k1 cY3 (wrap64 (x4_1+1)) l0_0 a0_1)=some r:=by first|(rw [by5];with_reducible exact H)|(have H2_:=(Option.bind_some _ _).symm.trans H;rw [by5];with_reducible exact H2_)|(have H2_:=(Option.bind_some _ _).symm.trans H;with_reducible exact H2_)|with_reducible exact H|(rw [by5];exact H)|exact H
    have df9:=q5.mk by5
    clear by5
    have H':=q5.mk H
    clear H
    obtain⟨hcz13_0,hcz13_1,hfz13_0,hfz13_1⟩:=N4 au7.out
    have cM7:0≤((ji6):Int):=dc_
    have cI1:(ji6)<(l0_0.length:Int):=dc_
    obtain⟨dq2,di3,br0⟩:=Kd.at_int HR0_0.out (ji6) cM7 cI1
    cases di3
    replace br0:=(HB.out.cell (World.block_lt_of_cell? w _ br0)).trans br0
    replace cM7:=eq_true cM7
    replace cI1:=eq_true cI1
   rotate_left
   focus
    obtain rfl:=Option.some.inj H
    obtain⟨hcz15_0,hcz15_1,hfz15_0,hfz15_1⟩:=N4 au7.out
   all_goals
    go_wp2_with (first|((with_reducible refine G1 (b:=.append) (xs:=#[.tmp 12,.tmp 26]) rfl ?_);at_builtin;refine Kd.R_append Kd.bool (w0:=w) w.heap.size rfl (.tmp 12) (.tmp 26) 39 4 (.bool false) 1 rfl Try.underlying39 D6 rfl (by decide) (by omega) u3 x3_1 ((Int.tmod (ji11) 2) == 1) [.bool ((Int.tmod (ji11) 2) == 1)] (fun _=>True) (fun _=>False) rfl rfl ?aP (fun _ hk=>hk.elim) ?aF ?aO ?aB ?aS ?aL ?_;(case aP=>exact rfl);(case aB=>exact bl_);(case aF=>exact(fun _ _=>trivial));(case aO=>exact(ro_ HO_3));(case aS=>exact(L0 bl_));(case aL=>have:=LMc12.out;omega);intro M4 U1 ho hb hg hat;rw [←df9.out] at ho;have n_:=pk3 (D5 (bo_ au7) hg (Kd.R_ne HO_3.out au7.out (by decide))) (hb) (ho);clear au7 HB HO_3;obtain⟨au7,HB,C0⟩:=n_;clear ho hb hg hat))
    first
     |go_roundg k1
      case measure=>have:=HK1.out;omega
      case rel=>exact⟨(cY3),(wrap64 (x4_1+1)),sm_,H',⟨by have:=HK1.out;omega⟩,⟨(ro_ C0)⟩,⟨(bo_ au7)⟩,⟨bl_⟩⟩
     |go_ret
      exact⟨_,rf_,(ro_ HO_3),bl_⟩
def q24.l0:Nat→List Bool→Int→Int→Option (Int)
 |0,_,_,_=>none
 |k+1,x0,x3,x4=>if x4<(x0.length:Int)then(if 0≤x4 then(if rdOf false x0 x4=true then(q24.l0 k x0 (IntKind.u64.wrap ((IntKind.u64.wrap (x3*2))+1)) (wrap64 (x4+1)))else(q24.l0 k x0 (IntKind.u64.wrap (x3*2)) (wrap64 (x4+1))))else(none))else(some x3)
def q24.f (k:Nat) (l0:List Bool):Option (Int):=q24.l0 k l0 0 0
theorem q24.calls (k:Nat) (A0:Option Addr) (c0:Nat) (l0:List Bool) (r:Int) (w:World) (hr0:Kd.C Kd.bool w A0 l0.length l0) (hc0:l0.length≤c0) (h:q24.f k l0=some r) :
  Calls Try.prog 25 #[.slice A0 l0.length c0] w fun e w'=>e=.returned (.int .u64 r)∧L1 w w':=by
 have HR0:=q5.mk hr0
 have HC0:=q5.mk hc0
 clear hr0 hc0
 have H:(q24.l0 k l0 0 0)=some r:=h
 clear h
 have H':=q5.mk H
 clear H
 go_enter Try.func25,Try.ntmps25
 go_wp2
 go_loopg [3,4] k (fun kq v3 v4 w'=>∃ (x3_1:Int) (x4_1:Int),v3=.int .u64 x3_1∧v4=.int .i64 x4_1∧q5 (q24.l0 kq l0 x3_1 x4_1=some r)∧q5 (kq≤k)∧L1 w w')
 case atStart=>exact⟨(0),(0),sm_,sm_,H',⟨Nat.le_refl _⟩,by repeat(first|exact L1.refl _|apply L1.step)⟩
 case round =>
  clear H'
  obtain⟨x3_1,x4_1,rfl,rfl,HA,HK1,⟨m1,rfl⟩⟩:=hrel
  cases gk with
  |zero=>exact absurd HA.out (by simp [q24.l0])
  |succ k1 =>
   have H:=HA.out
   clear HA
   simp only [q24.l0] at H
   replace H:=dle H
   rcases H with⟨c2b0,H⟩|⟨c2b0,H⟩
   focus
    replace H:=dle H
    rcases H with⟨c3b0,H⟩|⟨c3b0,H⟩
    rotate_left
    ·exact absurd H (by simp)
    obtain⟨bq4,hbq4⟩:∃ b_:Bool,b_=(rdOf false l0 x4_1):=⟨_,rfl⟩
    replace H:(if bq4=true then(q24.l0 k1 l0 (IntKind.u64.wrap ((IntKind.u64.wrap (x3_1*2))+1)) (wrap64 (x4_1+1)))else(q24.l0 k1 l0 (IntKind.u64.wrap (x3_1*2)) (wrap64 (x4_1+1))))=some r:=by rw [←hbq4] at H;exact H
    have Nbq4:=q5.mk hbq4
    clear hbq4
    replace H:=Q7 H
    rcases H with⟨rfl,H⟩|⟨rfl,H⟩
    focus
     have H':=q5.mk H
     clear H
     have bQ7:0≤(x4_1:Int):=dc_
     have bN3:x4_1<(l0.length:Int):=dc_
     obtain⟨cT4,cI9,bn1⟩:=Kd.at_bool HR0.out x4_1 bQ7 bN3
     (try rw [←Nbq4.out] at bn1)
     cases cI9
     replace bQ7:=eq_true bQ7
     replace bN3:=eq_true bN3
    rotate_left
    focus
     have H':=q5.mk H
     clear H
     have bQ7:0≤(x4_1:Int):=dc_
     have bN3:x4_1<(l0.length:Int):=dc_
     obtain⟨cT4,cI9,bn1⟩:=Kd.at_bool HR0.out x4_1 bQ7 bN3
     (try rw [←Nbq4.out] at bn1)
     cases cI9
     replace bQ7:=eq_true bQ7
     replace bN3:=eq_true bN3
   rotate_left 2
   focus
    obtain rfl:=Option.some.inj H
   all_goals
    go_wp2
    first
     |go_roundg k1
      case measure=>have:=HK1.out;omega
      first
       |case rel=>exact⟨(IntKind.u64.wrap ((IntKind.u64.wrap (x3_1*2))+1)),(wrap64 (x4_1+1)),sm_,sm_,H',⟨by have:=HK1.out;omega⟩,by repeat(first|exact L1.refl _|apply L1.step)⟩
       |case rel=>exact⟨(IntKind.u64.wrap (x3_1*2)),(wrap64 (x4_1+1)),sm_,sm_,H',⟨by have:=HK1.out;omega⟩,by repeat(first|exact L1.refl _|apply L1.step)⟩
     |go_ret
      exact⟨by first|rfl|(simp;done)|(simp [*];done),by repeat(first|exact L1.refl _|apply L1.step)⟩
def q51.f (a0:Int):Option (Int):=if a0≥0 then(some (IntKind.u64.wrap ((IntKind.u64.wrap (a0))*2)))else(some (IntKind.u64.wrap ((IntKind.u64.wrap ((IntKind.u64.wrap (wrap64 ((-1) - a0)))*2))+1)))
theorem q51.calls (a0:Int) (r:Int) (w:World) (h:q51.f a0=some r) :
  Calls Try.prog 68 #[.int .i64 a0] w fun e w'=>e=.returned (.int .u64 r)∧L1 w w':=by
 have H:(if a0≥0 then(some (IntKind.u64.wrap ((IntKind.u64.wrap (a0))*2)))else(some (IntKind.u64.wrap ((IntKind.u64.wrap ((IntKind.u64.wrap (wrap64 ((-1) - a0)))*2))+1))))=some r:=h
 clear h
 replace H:=dge H
 rcases H with⟨c2b0,H⟩|⟨c2b0,H⟩
 focus
  obtain rfl:=Option.some.inj H
 rotate_left
 focus
  obtain rfl:=Option.some.inj H
 all_goals
  go_enter Try.func68,Try.ntmps68
  go_wp2
  go_ret
  exact⟨by first|rfl|(simp;done)|(simp [*];done),by repeat(first|exact L1.refl _|apply L1.step)⟩
def q46.f (a0:Int):Option (Int):=(q51.f a0).bind fun aV6=>(if aV6=0 then(some 0)else(if aV6<128 then(some 1)else(if aV6<4096 then(some 2)else(if aV6<1048576 then(some 3)else(some 4)))))
theorem q46.calls (a0:Int) (r:Int) (w:World) (h:q46.f a0=some r) :
  Calls Try.prog 34 #[.int .i64 a0] w fun e w'=>e=.returned (.int .i64 r)∧L1 w w':=by
 have H:((q51.f a0).bind fun aV6=>(if aV6=0 then(some 0)else(if aV6<128 then(some 1)else(if aV6<4096 then(some 2)else(if aV6<1048576 then(some 3)else(some 4))))))=some r:=h
 clear h
 replace H:=N2 H
 obtain⟨aV6,A2,H⟩:=H
 try dsimp only at H
 replace H:=deqn H
 rcases H with⟨c3b0,c3b1,H⟩|⟨c3b0,c3b1,c3,H⟩
 focus
  obtain rfl:=Option.some.inj H
 rotate_left
 focus
  replace H:=dle H
  rcases H with⟨c4b0,H⟩|⟨c4b0,H⟩
  focus
   obtain rfl:=Option.some.inj H
  rotate_left
  focus
   replace H:=dle H
   rcases H with⟨c5b0,H⟩|⟨c5b0,H⟩
   focus
    obtain rfl:=Option.some.inj H
   rotate_left
   focus
    replace H:=dle H
    rcases H with⟨c6b0,H⟩|⟨c6b0,H⟩
    focus
     obtain rfl:=Option.some.inj H
    rotate_left
    focus
     obtain rfl:=Option.some.inj H
 all_goals
  go_enter Try.func34,Try.ntmps34
  go_wp2_with (first|((with_reducible refine C1 (f:=68) rfl ?_);refine goL_ (some 5) Try.func68 #[.int .i64 a0] ?_;(with_reducible refine(q51.calls a0 aV6 _ A2.out).mono ?_);rintro e w' ⟨rfl,⟨nd,rfl⟩⟩;refine⟨_,rfl,?_⟩))
  go_ret
  exact⟨by first|rfl|(simp;done)|(simp [*];done),by repeat(first|exact L1.refl _|apply L1.step)⟩
end Go.Proofs.Ytmddmbagehjdeaa.G
end
section
namespace Go.Proofs.Ytmddmbagehjdeaa.G
open Go.RowKit Go.Proofs.YtmddmbagehjdeaaX Go.Proofs.YtmddmbagehjdeaaW.PrintWords Go.Proofs.YtmddmbagehjdeaaW.PrintLast Go.Proofs.YtmddmbagehjdeaaW.PrintMore
attribute [local go_sem] S3 R3 R4 S4 P3 N3 D4 Y3
mutual
def q12.j1:Nat→List Bool→List Int→Int→Option (Int×Int)
 |0,_,_,_=>none
 |k+1,x0,x4,x5=>if x5=4 then(q12.j2 k x0 x4 x5 4)else(q12.j2 k x0 x4 x5 (wrap64 (x5+1)))
def q12.j2:Nat→List Bool→List Int→Int→Int→Option (Int×Int)
 |0,_,_,_,_=>none
 |k+1,x0,x4,x5,x6=>if 0≤x5 then(if x5<(x4.length:Int)then(if(wrap64 (x6+(rd x4 x5)))>(x0.length:Int)then(some (0,0))else(if 0≤x6 then(if x6≤(wrap64 (x6+(rd x4 x5)))then(if(wrap64 (x6+(rd x4 x5)))≤(x0.length:Int)then((q24.f k ((x0.take ((wrap64 (x6+(rd x4 x5))):Int).toNat).drop (x6:Int).toNat)).bind fun aj5=>(if(Int.tmod aj5 2)=1 then((q46.f (wrap64 ((-1) - (wrap64 (IntKind.u64.wrap (Int.tdiv aj5 2)))))).bind fun cq1=>(if cq1=x5 then(some (wrap64 ((-1) - (wrap64 (IntKind.u64.wrap (Int.tdiv aj5 2)))),wrap64 (x6+(rd x4 x5))))else(some (0,0))))else((q46.f (wrap64 (IntKind.u64.wrap (Int.tdiv aj5 2)))).bind fun cj6=>(if cj6=x5 then(some (wrap64 (IntKind.u64.wrap (Int.tdiv aj5 2)),wrap64 (x6+(rd x4 x5))))else(some (0,0))))))else(none))else(none))else(none)))else(none))else(none)
def q12.l0:Nat→List Bool→List Int→Int→Option (Int×Int)
 |0,_,_,_=>none
 |k+1,x0,x4,x5=>if x5<4 then(if x5<(x0.length:Int)then(if 0≤x5 then(if rdOf false x0 x5=true then(q12.l0 k x0 x4 (wrap64 (x5+1)))else(q12.j1 k x0 x4 x5))else(none))else(q12.j1 k x0 x4 x5))else(q12.j1 k x0 x4 x5)
end
def q12.f (k:Nat) (l0:List Bool):Option (Int×Int):=q12.l0 k l0 (([0,7,12,20,64]:List Int)) 0
theorem q12.calls (k:Nat) (A0:Option Addr) (c0:Nat) (l0:List Bool) (r1:Int) (r2:Int) (w:World) (hr0:Kd.C Kd.bool w A0 l0.length l0) (hc0:l0.length≤c0) (h:q12.f k l0=some (r1,r2)) :
  Calls Try.prog 26 #[.slice A0 l0.length c0] w fun e w'=>e=.returned (.tuple #[.int .i64 r1,.int .i64 r2])∧Below w.heap.size w w':=by
 have HR0:=q5.mk hr0
 have HC0:=q5.mk hc0
 clear hr0 hc0
 have HB:=q5.mk (Below.refl w.heap.size w)
 have H:(q12.l0 k l0 (([0,7,12,20,64]:List Int)) 0)=some (r1,r2):=h
 clear h
 obtain⟨Q4,bG4⟩:∃ y_:List Int,y_=(([0,7,12,20,64]:List Int)):=⟨_,rfl⟩
 replace H:(q12.l0 k l0 Q4 0)=some (r1,r2):=by first|(rw [bG4];with_reducible exact H)|(have H2_:=(Option.bind_some _ _).symm.trans H;rw [bG4];with_reducible exact H2_)|(have H2_:=(Option.bind_some _ _).symm.trans H;with_reducible exact H2_)|with_reducible exact H|(rw [bG4];exact H)|exact H
 have bi4:=q5.mk bG4
 clear bG4
 have HC2:=q5.mk H
 clear H
 go_enter Try.func26,Try.ntmps26
 go_upto_block 0 with(first|((with_reducible refine X0 (N:=9) rfl ?_);(try(refine O2 (by rfl) ?_;dsimp only));refine Kd.R_lit (Kd.int .i64) _ 3 ?hg (N:=9) ?hd (xs:=([0,7,12,20,64]:List Int)) (inner:=[.int .i64 0,.int .i64 7,.int .i64 12,.int .i64 20,.int .i64 64]) (ok:=fun _=>True) (okp:=fun _=>True) ?hr ?hp (fun _ hk=>hk) trivial (Below.refl _ _) (Nat.le_refl _) (by simp) ?_;(case hd=>rfl);(case hg=>rfl);(case hr=>first|(go_simp;done)|(go_simp;rfl));(case hp=>exact(Reps.one (show Kd.M (Kd.int .i64) _ _ _ 0 [.int .i64 0] from rfl) (Reps.one (show Kd.M (Kd.int .i64) _ _ _ 7 [.int .i64 7] from rfl) (Reps.one (show Kd.M (Kd.int .i64) _ _ _ 12 [.int .i64 12] from rfl) (Reps.one (show Kd.M (Kd.int .i64) _ _ _ 20 [.int .i64 20] from rfl) (Reps.one (show Kd.M (Kd.int .i64) _ _ _ 64 [.int .i64 64] from rfl) (Reps.none _ _)))))));intro cg7 w3 ho4 hb hg_ hnew_;clear hg_ hnew_;(first|rw [←bi4.out] at ho4|(simp only [Int.reduceToNat] at ho4;rw [←bi4.out] at ho4));have n_:=pk2 (Kd.R_lower ho4 (L0 bl_)) (E0 bl_ hb);clear HB;obtain⟨cq0,HB⟩:=n_;clear hb ho4))
 repeat(go_quiet (first|((with_reducible refine X0 (N:=9) rfl ?_);(try(refine O2 (by rfl) ?_;dsimp only));refine Kd.R_lit (Kd.int .i64) _ 3 ?hg (N:=9) ?hd (xs:=([0,7,12,20,64]:List Int)) (inner:=[.int .i64 0,.int .i64 7,.int .i64 12,.int .i64 20,.int .i64 64]) (ok:=fun _=>True) (okp:=fun _=>True) ?hr ?hp (fun _ hk=>hk) trivial (Below.refl _ _) (Nat.le_refl _) (by simp) ?_;(case hd=>rfl);(case hg=>rfl);(case hr=>first|(go_simp;done)|(go_simp;rfl));(case hp=>exact(Reps.one (show Kd.M (Kd.int .i64) _ _ _ 0 [.int .i64 0] from rfl) (Reps.one (show Kd.M (Kd.int .i64) _ _ _ 7 [.int .i64 7] from rfl) (Reps.one (show Kd.M (Kd.int .i64) _ _ _ 12 [.int .i64 12] from rfl) (Reps.one (show Kd.M (Kd.int .i64) _ _ _ 20 [.int .i64 20] from rfl) (Reps.one (show Kd.M (Kd.int .i64) _ _ _ 64 [.int .i64 64] from rfl) (Reps.none _ _)))))));intro cg7 w3 ho4 hb hg_ hnew_;clear hg_ hnew_;(first|rw [←bi4.out] at ho4|(simp only [Int.reduceToNat] at ho4;rw [←bi4.out] at ho4));have n_:=pk2 (Kd.R_lower ho4 (L0 bl_)) (E0 bl_ hb);clear HB;obtain⟨cq0,HB⟩:=n_;clear hb ho4));go_upto_block 0 with(first|((with_reducible refine X0 (N:=9) rfl ?_);(try(refine O2 (by rfl) ?_;dsimp only));refine Kd.R_lit (Kd.int .i64) _ 3 ?hg (N:=9) ?hd (xs:=([0,7,12,20,64]:List Int)) (inner:=[.int .i64 0,.int .i64 7,.int .i64 12,.int .i64 20,.int .i64 64]) (ok:=fun _=>True) (okp:=fun _=>True) ?hr ?hp (fun _ hk=>hk) trivial (Below.refl _ _) (Nat.le_refl _) (by simp) ?_;(case hd=>rfl);(case hg=>rfl);(case hr=>first|(go_simp;done)|(go_simp;rfl));(case hp=>exact(Reps.one (show Kd.M (Kd.int .i64) _ _ _ 0 [.int .i64 0] from rfl) (Reps.one (show Kd.M (Kd.int .i64) _ _ _ 7 [.int .i64 7] from rfl) (Reps.one (show Kd.M (Kd.int .i64) _ _ _ 12 [.int .i64 12] from rfl) (Reps.one (show Kd.M (Kd.int .i64) _ _ _ 20 [.int .i64 20] from rfl) (Reps.one (show Kd.M (Kd.int .i64) _ _ _ 64 [.int .i64 64] from rfl) (Reps.none _ _)))))));intro cg7 w3 ho4 hb hg_ hnew_;clear hg_ hnew_;(first|rw [←bi4.out] at ho4|(simp only [Int.reduceToNat] at ho4;rw [←bi4.out] at ho4));have n_:=pk2 (Kd.R_lower ho4 (L0 bl_)) (E0 bl_ hb);clear HB;obtain⟨cq0,HB⟩:=n_;clear hb ho4)))
 (try simp only [ap_,sb_,s0_,s1_])
 go_cut [5] (fun v5 wc=>∃ (kq:Nat) (x5_1:Int),v5=.int .i64 x5_1∧q5 (q12.j1 kq l0 Q4 x5_1=some (r1,r2))∧q5 (kq≤k)∧q5 (Kd.R (Kd.int .i64) 3 wc w.heap.size (fun _=>True) cg7 Q4)∧q5 (Below w.heap.size w wc))
 case first =>
  have H:=HC2.out
  clear HC2
  have H':=q5.mk H
  clear H
  go_wp2
  repeat(go_quiet (fail);try go_wp2)
  go_loopg [5] k (fun kq v5 w'=>∃ (x5_1:Int),v5=.int .i64 x5_1∧q5 (q12.l0 kq l0 Q4 x5_1=some (r1,r2))∧q5 (kq≤k)∧q5 (Kd.R (Kd.int .i64) 3 w' w.heap.size (fun _=>True) cg7 Q4)∧q5 (Below w.heap.size w w'))
  case atStart=>exact⟨(0),sm_,H',⟨Nat.le_refl _⟩,⟨(ro_ cq0)⟩,⟨bl_⟩⟩
  case round =>
   clear H'
   obtain⟨x5_1,rfl,HA,HK1,HO_4,HB⟩:=hrel
   cases gk with
   |zero=>exact absurd HA.out (by simp [q12.l0])
   |succ k1 =>
    have H:=HA.out
    clear HA
    simp only [q12.l0] at H
    replace H:=dle H
    rcases H with⟨c5b0,H⟩|⟨c5b0,H⟩
    focus
     (first|rw [c5b0]|(simp only [N0,P0];rw [c5b0])|skip)
     replace H:=dle H
     rcases H with⟨c6b0,H⟩|⟨c6b0,H⟩
     focus
      replace H:=dle H
      rcases H with⟨c7b0,H⟩|⟨c7b0,H⟩
      rotate_left
      ·exact absurd H (by simp)
      obtain⟨bq8,hbq8⟩:∃ b_:Bool,b_=(rdOf false l0 x5_1):=⟨_,rfl⟩
      replace H:(if bq8=true then(q12.l0 k1 l0 Q4 (wrap64 (x5_1+1)))else(q12.j1 k1 l0 Q4 x5_1))=some (r1,r2):=by rw [←hbq8] at H;exact H
      have Nbq8:=q5.mk hbq8
      clear hbq8
      replace H:=Q7 H
      rcases H with⟨rfl,H⟩|⟨rfl,H⟩
      focus
       have H':=q5.mk H
       clear H
       have bR9:0≤(x5_1:Int):=dc_
       have bH6:x5_1<(l0.length:Int):=dc_
       obtain⟨cU3,cJ6,aj3⟩:=Kd.at_bool HR0.out x5_1 bR9 bH6
       (try rw [←Nbq8.out] at aj3)
       cases cJ6
       replace aj3:=(HB.out.cell (World.block_lt_of_cell? w _ aj3)).trans aj3
       replace bR9:=eq_true bR9
       replace bH6:=eq_true bH6
      rotate_left
      focus
       have H':=q5.mk H
       clear H
       have bR9:0≤(x5_1:Int):=dc_
       have bH6:x5_1<(l0.length:Int):=dc_
       obtain⟨cU3,cJ6,aj3⟩:=Kd.at_bool HR0.out x5_1 bR9 bH6
       (try rw [←Nbq8.out] at aj3)
       cases cJ6
       replace aj3:=(HB.out.cell (World.block_lt_of_cell? w _ aj3)).trans aj3
       replace bR9:=eq_true bR9
       replace bH6:=eq_true bH6
     rotate_left 2
     focus
      have H':=q5.mk H
      clear H
    rotate_left 3
    focus
     (first|rw [c5b0]|(simp only [N0,P0];rw [c5b0])|skip)
     have H':=q5.mk H
     clear H
    all_goals
     go_wp2
     repeat(go_quiet (fail);try go_wp2)
     first
      |go_roundg k1
       case measure=>have:=HK1.out;omega
       case rel=>exact⟨(wrap64 (x5_1+1)),sm_,H',⟨by have:=HK1.out;omega⟩,⟨(ro_ HO_4)⟩,⟨bl_⟩⟩
      |go_meet
       case rel=>exact⟨_,(x5_1),sm_,H',⟨by have:=HK1.out;first|omega|exact Nat.le_refl _⟩,⟨(ro_ HO_4)⟩,⟨bl_⟩⟩
 case rest =>
  clear HC2
  obtain⟨kq,x5_1,rfl,HA,HJ1,HO_4,HB⟩:=hcut
  cases kq with
  |zero=>exact absurd HA.out (by simp [q12.j1])
  |succ kj1 =>
   have H:=HA.out
   clear HA
   simp only [q12.j1] at H
   have HC10:=q5.mk H
   clear H
   go_upto_if 29 with(fail)
   repeat(go_quiet (fail);go_upto_if 29 with(fail))
   go_cut [6] (fun v6 wc=>∃ (kq:Nat) (x6_9:Int),v6=.int .i64 x6_9∧q5 (q12.j2 kq l0 Q4 x5_1 x6_9=some (r1,r2))∧q5 (kq≤kj1)∧q5 (Kd.R (Kd.int .i64) 3 wc w.heap.size (fun _=>True) cg7 Q4)∧q5 (Below w.heap.size w wc))
   case first =>
    have H:=HC10.out
    clear HC10
    replace H:=deqn H
    rcases H with⟨c11b0,c11b1,H⟩|⟨c11b0,c11b1,c11,H⟩
    focus
     (first|rw [c11b0]|(simp only [N0,P0];rw [c11b0])|skip)
     have H':=q5.mk H
     clear H
    rotate_left
    focus
     (first|rw [c11b0]|(simp only [N0,P0];rw [c11b0])|skip)
     have H':=q5.mk H
     clear H
    all_goals
     go_wp2
     repeat(go_quiet (fail);try go_wp2)
     go_meet
     first
      |case rel=>exact⟨_,(4),sm_,H',⟨by have:=HJ1.out;first|omega|exact Nat.le_refl _⟩,⟨(ro_ HO_4)⟩,⟨bl_⟩⟩
      |case rel=>exact⟨_,(wrap64 (x5_1+1)),sm_,H',⟨by have:=HJ1.out;first|omega|exact Nat.le_refl _⟩,⟨(ro_ HO_4)⟩,⟨bl_⟩⟩
   case rest =>
    clear HC10
    obtain⟨kq,x6_9,rfl,HA,HJ9,HO_4,HB⟩:=hcut
    cases kq with
    |zero=>exact absurd HA.out (by simp [q12.j2])
    |succ kj9 =>
     have H:=HA.out
     clear HA
     simp only [q12.j2] at H
     replace H:=dle H
     rcases H with⟨c12b0,H⟩|⟨c12b0,H⟩
     rotate_left
     ·exact absurd H (by simp)
     replace H:=dle H
     rcases H with⟨c13b0,H⟩|⟨c13b0,H⟩
     rotate_left
     ·exact absurd H (by simp)
     replace H:=dgt H
     rcases H with⟨c14b0,H⟩|⟨c14b0,H⟩
     focus
      simp only [Option.some.injEq,Prod.mk.injEq] at H
      obtain⟨rfl,rfl⟩:=H
      obtain⟨Ao15,co15,eo15⟩:=Kd.R_slice HO_4.out
      subst eo15
      have ar2:0≤(x5_1:Int):=dc_
      have as3:x5_1<(Q4.length:Int):=dc_
      obtain⟨ao6,bq5,aS9⟩:=Kd.at_int (Kd.R_reads' HO_4.out).2.2 x5_1 ar2 as3
      cases bq5
      replace ar2:=eq_true ar2
      replace as3:=eq_true as3
     rotate_left
     focus
      by_cases c16:0≤x6_9
      rotate_left
      ·rw [if_neg c16] at H
       exact absurd H (by simp)
      rw [if_pos c16] at H
      have c16b0:=eq_true c16
      have c16b1:decide (0≤x6_9)=true:=decide_eq_true c16
      clear c16
      by_cases c17:x6_9≤(wrap64 (x6_9+(rd Q4 x5_1)))
      rotate_left
      ·rw [if_neg c17] at H
       exact absurd H (by simp)
      rw [if_pos c17] at H
      have c17b0:=eq_true c17
      have c17b1:decide (x6_9≤(wrap64 (x6_9+(rd Q4 x5_1))))=true:=decide_eq_true c17
      by_cases c18:(wrap64 (x6_9+(rd Q4 x5_1)))≤(l0.length:Int)
      rotate_left
      ·rw [if_neg c18] at H
       exact absurd H (by simp)
      rw [if_pos c18] at H
      have c18b0:=eq_true c18
      have c18b1:decide ((wrap64 (x6_9+(rd Q4 x5_1)))≤(l0.length:Int))=true:=decide_eq_true c18
      replace H:=N2 H
      obtain⟨aj5,A19,H⟩:=H
      try dsimp only at H
      replace H:=deqn H
      rcases H with⟨c20b0,c20b1,H⟩|⟨c20b0,c20b1,c20,H⟩
      focus
       replace H:=N2 H
       obtain⟨cq1,A21,H⟩:=H
       try dsimp only at H
       replace H:=deqn H
       rcases H with⟨c22b0,c22b1,H⟩|⟨c22b0,c22b1,c22,H⟩
       focus
        simp only [Option.some.injEq,Prod.mk.injEq] at H
        obtain⟨rfl,rfl⟩:=H
        obtain⟨Ao23,co23,eo23⟩:=Kd.R_slice HO_4.out
        subst eo23
        have ar2:0≤(x5_1:Int):=dc_
        have as3:x5_1<(Q4.length:Int):=dc_
        obtain⟨ao6,bq5,aS9⟩:=Kd.at_int (Kd.R_reads' HO_4.out).2.2 x5_1 ar2 as3
        cases bq5
        replace ar2:=eq_true ar2
        replace as3:=eq_true as3
        have aG0:0≤(x5_1:Int):=dc_
        have aG1:x5_1<(Q4.length:Int):=dc_
        obtain⟨aW8,bK0,bm2⟩:=Kd.at_int (Kd.R_reads' HO_4.out).2.2 x5_1 aG0 aG1
        obtain rfl:ao6=aW8:=(by injection bK0)
        replace aG0:=eq_true aG0
        replace aG1:=eq_true aG1
        obtain⟨dt7,cB4,_,hsz24,_⟩:=info_parts D6
        obtain⟨A24,hcut24,hA24,hC24⟩:=aj6 (P:=Try.prog) Value.bool false 39 4 .i64 .i64 Try.underlying39 cB4 hsz24 A0 c0 l0 x6_9 (wrap64 (x6_9+(rd Q4 x5_1))) dc_ (by first|omega|exact dc_) dc_ HC0.out
        have hwr24:=fun z=>IntWalk.i64_left z
        have an1:=q5.mk (Kd.C_of_reads (h1:=fun _=>rfl) (hA24 _ (Kd.reads_of_C HR0.out)))
        have al6:=q5.mk hC24
        clear hA24 hC24 cB4 hsz24
       rotate_left
       focus
        simp only [Option.some.injEq,Prod.mk.injEq] at H
        obtain⟨rfl,rfl⟩:=H
        obtain⟨Ao25,co25,eo25⟩:=Kd.R_slice HO_4.out
        subst eo25
        have ar2:0≤(x5_1:Int):=dc_
        have as3:x5_1<(Q4.length:Int):=dc_
        obtain⟨ao6,bq5,aS9⟩:=Kd.at_int (Kd.R_reads' HO_4.out).2.2 x5_1 ar2 as3
        cases bq5
        replace ar2:=eq_true ar2
        replace as3:=eq_true as3
        have aG0:0≤(x5_1:Int):=dc_
        have aG1:x5_1<(Q4.length:Int):=dc_
        obtain⟨aW8,bK0,bm2⟩:=Kd.at_int (Kd.R_reads' HO_4.out).2.2 x5_1 aG0 aG1
        obtain rfl:ao6=aW8:=(by injection bK0)
        replace aG0:=eq_true aG0
        replace aG1:=eq_true aG1
        obtain⟨du5,cA6,_,hsz26,_⟩:=info_parts D6
        obtain⟨A26,hcut26,hA26,hC26⟩:=aj6 (P:=Try.prog) Value.bool false 39 4 .i64 .i64 Try.underlying39 cA6 hsz26 A0 c0 l0 x6_9 (wrap64 (x6_9+(rd Q4 x5_1))) dc_ (by first|omega|exact dc_) dc_ HC0.out
        have hwr26:=fun z=>IntWalk.i64_left z
        have an1:=q5.mk (Kd.C_of_reads (h1:=fun _=>rfl) (hA26 _ (Kd.reads_of_C HR0.out)))
        have al6:=q5.mk hC26
        clear hA26 hC26 cA6 hsz26
      rotate_left 2
      focus
       replace H:=N2 H
       obtain⟨cj6,A27,H⟩:=H
       try dsimp only at H
       replace H:=deqn H
       rcases H with⟨c28b0,c28b1,H⟩|⟨c28b0,c28b1,c28,H⟩
       focus
        simp only [Option.some.injEq,Prod.mk.injEq] at H
        obtain⟨rfl,rfl⟩:=H
        obtain⟨Ao29,co29,eo29⟩:=Kd.R_slice HO_4.out
        subst eo29
        have ar2:0≤(x5_1:Int):=dc_
        have as3:x5_1<(Q4.length:Int):=dc_
        obtain⟨ao6,bq5,aS9⟩:=Kd.at_int (Kd.R_reads' HO_4.out).2.2 x5_1 ar2 as3
        cases bq5
        replace ar2:=eq_true ar2
        replace as3:=eq_true as3
        have aG0:0≤(x5_1:Int):=dc_
        have aG1:x5_1<(Q4.length:Int):=dc_
        obtain⟨aW8,bK0,bm2⟩:=Kd.at_int (Kd.R_reads' HO_4.out).2.2 x5_1 aG0 aG1
        obtain rfl:ao6=aW8:=(by injection bK0)
        replace aG0:=eq_true aG0
        replace aG1:=eq_true aG1
        obtain⟨du1,cD6,_,hsz30,_⟩:=info_parts D6
        obtain⟨A30,hcut30,hA30,hC30⟩:=aj6 (P:=Try.prog) Value.bool false 39 4 .i64 .i64 Try.underlying39 cD6 hsz30 A0 c0 l0 x6_9 (wrap64 (x6_9+(rd Q4 x5_1))) dc_ (by first|omega|exact dc_) dc_ HC0.out
        have hwr30:=fun z=>IntWalk.i64_left z
        have an1:=q5.mk (Kd.C_of_reads (h1:=fun _=>rfl) (hA30 _ (Kd.reads_of_C HR0.out)))
        have al6:=q5.mk hC30
        clear hA30 hC30 cD6 hsz30
       rotate_left
       focus
        simp only [Option.some.injEq,Prod.mk.injEq] at H
        obtain⟨rfl,rfl⟩:=H
        obtain⟨Ao31,co31,eo31⟩:=Kd.R_slice HO_4.out
        subst eo31
        have ar2:0≤(x5_1:Int):=dc_
        have as3:x5_1<(Q4.length:Int):=dc_
        obtain⟨ao6,bq5,aS9⟩:=Kd.at_int (Kd.R_reads' HO_4.out).2.2 x5_1 ar2 as3
        cases bq5
        replace ar2:=eq_true ar2
        replace as3:=eq_true as3
        have aG0:0≤(x5_1:Int):=dc_
        have aG1:x5_1<(Q4.length:Int):=dc_
        obtain⟨aW8,bK0,bm2⟩:=Kd.at_int (Kd.R_reads' HO_4.out).2.2 x5_1 aG0 aG1
        obtain rfl:ao6=aW8:=(by injection bK0)
        replace aG0:=eq_true aG0
        replace aG1:=eq_true aG1
        obtain⟨dl2,bC5,_,hsz32,_⟩:=info_parts D6
        obtain⟨A32,hcut32,hA32,hC32⟩:=aj6 (P:=Try.prog) Value.bool false 39 4 .i64 .i64 Try.underlying39 bC5 hsz32 A0 c0 l0 x6_9 (wrap64 (x6_9+(rd Q4 x5_1))) dc_ (by first|omega|exact dc_) dc_ HC0.out
        have hwr32:=fun z=>IntWalk.i64_left z
        have an1:=q5.mk (Kd.C_of_reads (h1:=fun _=>rfl) (hA32 _ (Kd.reads_of_C HR0.out)))
        have al6:=q5.mk hC32
        clear hA32 hC32 bC5 hsz32
     all_goals
      go_wp2_with (first|(go_at_call 25;refine X5 (args':=#[.slice A24 ((l0.take ((wrap64 (x6_9+(rd Q4 x5_1))):Int).toNat).drop (x6_9:Int).toNat).length (c0 - (x6_9:Int).toNat)]) (by rw [show((l0.take ((wrap64 (x6_9+(rd Q4 x5_1))):Int).toNat).drop (x6_9:Int).toNat).length=((wrap64 (x6_9+(rd Q4 x5_1))):Int).toNat - (x6_9:Int).toNat from (by rw [List.length_drop,List.length_take,Nat.min_eq_left (by have hm_:(wrap64 (x6_9+(rd Q4 x5_1)))≤(l0.length:Int):=dc_;omega)])]<;>rfl) ?_;(with_reducible refine(q24.calls kj9 _ _ ((l0.take ((wrap64 (x6_9+(rd Q4 x5_1))):Int).toNat).drop (x6_9:Int).toNat) aj5 _ ?side1 ?side2 A19.out).mono ?_);(case side1=>exact cb_ an1);(case side2=>exact al6.out);rintro e w' ⟨rfl,⟨nd,rfl⟩⟩;(try first|exact⟨rfl,_,World.drewN_drewN _ _ _⟩|exact⟨rfl,_,Eq.trans (World.drewN_drewN _ _ _) (congrArg (World.drewN _) (Nat.add_assoc _ _ _))⟩))|(go_at_call 25;refine X5 (args':=#[.slice A26 ((l0.take ((wrap64 (x6_9+(rd Q4 x5_1))):Int).toNat).drop (x6_9:Int).toNat).length (c0 - (x6_9:Int).toNat)]) (by rw [show((l0.take ((wrap64 (x6_9+(rd Q4 x5_1))):Int).toNat).drop (x6_9:Int).toNat).length=((wrap64 (x6_9+(rd Q4 x5_1))):Int).toNat - (x6_9:Int).toNat from (by rw [List.length_drop,List.length_take,Nat.min_eq_left (by have hm_:(wrap64 (x6_9+(rd Q4 x5_1)))≤(l0.length:Int):=dc_;omega)])]<;>rfl) ?_;(with_reducible refine(q24.calls kj9 _ _ ((l0.take ((wrap64 (x6_9+(rd Q4 x5_1))):Int).toNat).drop (x6_9:Int).toNat) aj5 _ ?side1 ?side2 A19.out).mono ?_);(case side1=>exact cb_ an1);(case side2=>exact al6.out);rintro e w' ⟨rfl,⟨nd,rfl⟩⟩;(try first|exact⟨rfl,_,World.drewN_drewN _ _ _⟩|exact⟨rfl,_,Eq.trans (World.drewN_drewN _ _ _) (congrArg (World.drewN _) (Nat.add_assoc _ _ _))⟩))|(go_at_call 25;refine X5 (args':=#[.slice A30 ((l0.take ((wrap64 (x6_9+(rd Q4 x5_1))):Int).toNat).drop (x6_9:Int).toNat).length (c0 - (x6_9:Int).toNat)]) (by rw [show((l0.take ((wrap64 (x6_9+(rd Q4 x5_1))):Int).toNat).drop (x6_9:Int).toNat).length=((wrap64 (x6_9+(rd Q4 x5_1))):Int).toNat - (x6_9:Int).toNat from (by rw [List.length_drop,List.length_take,Nat.min_eq_left (by have hm_:(wrap64 (x6_9+(rd Q4 x5_1)))≤(l0.length:Int):=dc_;omega)])]<;>rfl) ?_;(with_reducible refine(q24.calls kj9 _ _ ((l0.take ((wrap64 (x6_9+(rd Q4 x5_1))):Int).toNat).drop (x6_9:Int).toNat) aj5 _ ?side1 ?side2 A19.out).mono ?_);(case side1=>exact cb_ an1);(case side2=>exact al6.out);rintro e w' ⟨rfl,⟨nd,rfl⟩⟩;(try first|exact⟨rfl,_,World.drewN_drewN _ _ _⟩|exact⟨rfl,_,Eq.trans (World.drewN_drewN _ _ _) (congrArg (World.drewN _) (Nat.add_assoc _ _ _))⟩))|(go_at_call 25;refine X5 (args':=#[.slice A32 ((l0.take ((wrap64 (x6_9+(rd Q4 x5_1))):Int).toNat).drop (x6_9:Int).toNat).length (c0 - (x6_9:Int).toNat)]) (by rw [show((l0.take ((wrap64 (x6_9+(rd Q4 x5_1))):Int).toNat).drop (x6_9:Int).toNat).length=((wrap64 (x6_9+(rd Q4 x5_1))):Int).toNat - (x6_9:Int).toNat from (by rw [List.length_drop,List.length_take,Nat.min_eq_left (by have hm_:(wrap64 (x6_9+(rd Q4 x5_1)))≤(l0.length:Int):=dc_;omega)])]<;>rfl) ?_;(with_reducible refine(q24.calls kj9 _ _ ((l0.take ((wrap64 (x6_9+(rd Q4 x5_1))):Int).toNat).drop (x6_9:Int).toNat) aj5 _ ?side1 ?side2 A19.out).mono ?_);(case side1=>exact cb_ an1);(case side2=>exact al6.out);rintro e w' ⟨rfl,⟨nd,rfl⟩⟩;(try first|exact⟨rfl,_,World.drewN_drewN _ _ _⟩|exact⟨rfl,_,Eq.trans (World.drewN_drewN _ _ _) (congrArg (World.drewN _) (Nat.add_assoc _ _ _))⟩))|(go_at_call 34;(with_reducible refine(q46.calls (wrap64 ((-1) - (wrap64 (IntKind.u64.wrap (Int.tdiv aj5 2))))) cq1 _ A21.out).mono ?_);rintro e w' ⟨rfl,⟨nd,rfl⟩⟩;(try first|exact⟨rfl,_,World.drewN_drewN _ _ _⟩|exact⟨rfl,_,Eq.trans (World.drewN_drewN _ _ _) (congrArg (World.drewN _) (Nat.add_assoc _ _ _))⟩);(try(have F3:0≤(x5_1:Int):=dc_;have I3:x5_1<(Q4.length:Int):=dc_;obtain⟨J1,E6,Z0⟩:=Kd.at_int (Kd.R_reads' HO_4.out).2.2 x5_1 F3 I3;obtain rfl:ao6=J1:=(by injection E6);replace F3:=eq_true F3;replace I3:=eq_true I3)))|(go_at_call 34;(with_reducible refine(q46.calls (wrap64 (IntKind.u64.wrap (Int.tdiv aj5 2))) cj6 _ A27.out).mono ?_);rintro e w' ⟨rfl,⟨nd,rfl⟩⟩;(try first|exact⟨rfl,_,World.drewN_drewN _ _ _⟩|exact⟨rfl,_,Eq.trans (World.drewN_drewN _ _ _) (congrArg (World.drewN _) (Nat.add_assoc _ _ _))⟩);(try(have F3:0≤(x5_1:Int):=dc_;have I3:x5_1<(Q4.length:Int):=dc_;obtain⟨J1,E6,Z0⟩:=Kd.at_int (Kd.R_reads' HO_4.out).2.2 x5_1 F3 I3;obtain rfl:ao6=J1:=(by injection E6);replace F3:=eq_true F3;replace I3:=eq_true I3))))
      repeat(go_quiet (first|(go_at_call 25;refine X5 (args':=#[.slice A24 ((l0.take ((wrap64 (x6_9+(rd Q4 x5_1))):Int).toNat).drop (x6_9:Int).toNat).length (c0 - (x6_9:Int).toNat)]) (by rw [show((l0.take ((wrap64 (x6_9+(rd Q4 x5_1))):Int).toNat).drop (x6_9:Int).toNat).length=((wrap64 (x6_9+(rd Q4 x5_1))):Int).toNat - (x6_9:Int).toNat from (by rw [List.length_drop,List.length_take,Nat.min_eq_left (by have hm_:(wrap64 (x6_9+(rd Q4 x5_1)))≤(l0.length:Int):=dc_;omega)])]<;>rfl) ?_;(with_reducible refine(q24.calls kj9 _ _ ((l0.take ((wrap64 (x6_9+(rd Q4 x5_1))):Int).toNat).drop (x6_9:Int).toNat) aj5 _ ?side1 ?side2 A19.out).mono ?_);(case side1=>exact cb_ an1);(case side2=>exact al6.out);rintro e w' ⟨rfl,⟨nd,rfl⟩⟩;(try first|exact⟨rfl,_,World.drewN_drewN _ _ _⟩|exact⟨rfl,_,Eq.trans (World.drewN_drewN _ _ _) (congrArg (World.drewN _) (Nat.add_assoc _ _ _))⟩))|(go_at_call 25;refine X5 (args':=#[.slice A26 ((l0.take ((wrap64 (x6_9+(rd Q4 x5_1))):Int).toNat).drop (x6_9:Int).toNat).length (c0 - (x6_9:Int).toNat)]) (by rw [show((l0.take ((wrap64 (x6_9+(rd Q4 x5_1))):Int).toNat).drop (x6_9:Int).toNat).length=((wrap64 (x6_9+(rd Q4 x5_1))):Int).toNat - (x6_9:Int).toNat from (by rw [List.length_drop,List.length_take,Nat.min_eq_left (by have hm_:(wrap64 (x6_9+(rd Q4 x5_1)))≤(l0.length:Int):=dc_;omega)])]<;>rfl) ?_;(with_reducible refine(q24.calls kj9 _ _ ((l0.take ((wrap64 (x6_9+(rd Q4 x5_1))):Int).toNat).drop (x6_9:Int).toNat) aj5 _ ?side1 ?side2 A19.out).mono ?_);(case side1=>exact cb_ an1);(case side2=>exact al6.out);rintro e w' ⟨rfl,⟨nd,rfl⟩⟩;(try first|exact⟨rfl,_,World.drewN_drewN _ _ _⟩|exact⟨rfl,_,Eq.trans (World.drewN_drewN _ _ _) (congrArg (World.drewN _) (Nat.add_assoc _ _ _))⟩))|(go_at_call 25;refine X5 (args':=#[.slice A30 ((l0.take ((wrap64 (x6_9+(rd Q4 x5_1))):Int).toNat).drop (x6_9:Int).toNat).length (c0 - (x6_9:Int).toNat)]) (by rw [show((l0.take ((wrap64 (x6_9+(rd Q4 x5_1))):Int).toNat).drop (x6_9:Int).toNat).length=((wrap64 (x6_9+(rd Q4 x5_1))):Int).toNat - (x6_9:Int).toNat from (by rw [List.length_drop,List.length_take,Nat.min_eq_left (by have hm_:(wrap64 (x6_9+(rd Q4 x5_1)))≤(l0.length:Int):=dc_;omega)])]<;>rfl) ?_;(with_reducible refine(q24.calls kj9 _ _ ((l0.take ((wrap64 (x6_9+(rd Q4 x5_1))):Int).toNat).drop (x6_9:Int).toNat) aj5 _ ?side1 ?side2 A19.out).mono ?_);(case side1=>exact cb_ an1);(case side2=>exact al6.out);rintro e w' ⟨rfl,⟨nd,rfl⟩⟩;(try first|exact⟨rfl,_,World.drewN_drewN _ _ _⟩|exact⟨rfl,_,Eq.trans (World.drewN_drewN _ _ _) (congrArg (World.drewN _) (Nat.add_assoc _ _ _))⟩))|(go_at_call 25;refine X5 (args':=#[.slice A32 ((l0.take ((wrap64 (x6_9+(rd Q4 x5_1))):Int).toNat).drop (x6_9:Int).toNat).length (c0 - (x6_9:Int).toNat)]) (by rw [show((l0.take ((wrap64 (x6_9+(rd Q4 x5_1))):Int).toNat).drop (x6_9:Int).toNat).length=((wrap64 (x6_9+(rd Q4 x5_1))):Int).toNat - (x6_9:Int).toNat from (by rw [List.length_drop,List.length_take,Nat.min_eq_left (by have hm_:(wrap64 (x6_9+(rd Q4 x5_1)))≤(l0.length:Int):=dc_;omega)])]<;>rfl) ?_;(with_reducible refine(q24.calls kj9 _ _ ((l0.take ((wrap64 (x6_9+(rd Q4 x5_1))):Int).toNat).drop (x6_9:Int).toNat) aj5 _ ?side1 ?side2 A19.out).mono ?_);(case side1=>exact cb_ an1);(case side2=>exact al6.out);rintro e w' ⟨rfl,⟨nd,rfl⟩⟩;(try first|exact⟨rfl,_,World.drewN_drewN _ _ _⟩|exact⟨rfl,_,Eq.trans (World.drewN_drewN _ _ _) (congrArg (World.drewN _) (Nat.add_assoc _ _ _))⟩))|(go_at_call 34;(with_reducible refine(q46.calls (wrap64 ((-1) - (wrap64 (IntKind.u64.wrap (Int.tdiv aj5 2))))) cq1 _ A21.out).mono ?_);rintro e w' ⟨rfl,⟨nd,rfl⟩⟩;(try first|exact⟨rfl,_,World.drewN_drewN _ _ _⟩|exact⟨rfl,_,Eq.trans (World.drewN_drewN _ _ _) (congrArg (World.drewN _) (Nat.add_assoc _ _ _))⟩);(try(have F3:0≤(x5_1:Int):=dc_;have I3:x5_1<(Q4.length:Int):=dc_;obtain⟨J1,E6,Z0⟩:=Kd.at_int (Kd.R_reads' HO_4.out).2.2 x5_1 F3 I3;obtain rfl:ao6=J1:=(by injection E6);replace F3:=eq_true F3;replace I3:=eq_true I3)))|(go_at_call 34;(with_reducible refine(q46.calls (wrap64 (IntKind.u64.wrap (Int.tdiv aj5 2))) cj6 _ A27.out).mono ?_);rintro e w' ⟨rfl,⟨nd,rfl⟩⟩;(try first|exact⟨rfl,_,World.drewN_drewN _ _ _⟩|exact⟨rfl,_,Eq.trans (World.drewN_drewN _ _ _) (congrArg (World.drewN _) (Nat.add_assoc _ _ _))⟩);(try(have F3:0≤(x5_1:Int):=dc_;have I3:x5_1<(Q4.length:Int):=dc_;obtain⟨J1,E6,Z0⟩:=Kd.at_int (Kd.R_reads' HO_4.out).2.2 x5_1 F3 I3;obtain rfl:ao6=J1:=(by injection E6);replace F3:=eq_true F3;replace I3:=eq_true I3))));try go_wp2_with (first|(go_at_call 25;refine X5 (args':=#[.slice A24 ((l0.take ((wrap64 (x6_9+(rd Q4 x5_1))):Int).toNat).drop (x6_9:Int).toNat).length (c0 - (x6_9:Int).toNat)]) (by rw [show((l0.take ((wrap64 (x6_9+(rd Q4 x5_1))):Int).toNat).drop (x6_9:Int).toNat).length=((wrap64 (x6_9+(rd Q4 x5_1))):Int).toNat - (x6_9:Int).toNat from (by rw [List.length_drop,List.length_take,Nat.min_eq_left (by have hm_:(wrap64 (x6_9+(rd Q4 x5_1)))≤(l0.length:Int):=dc_;omega)])]<;>rfl) ?_;(with_reducible refine(q24.calls kj9 _ _ ((l0.take ((wrap64 (x6_9+(rd Q4 x5_1))):Int).toNat).drop (x6_9:Int).toNat) aj5 _ ?side1 ?side2 A19.out).mono ?_);(case side1=>exact cb_ an1);(case side2=>exact al6.out);rintro e w' ⟨rfl,⟨nd,rfl⟩⟩;(try first|exact⟨rfl,_,World.drewN_drewN _ _ _⟩|exact⟨rfl,_,Eq.trans (World.drewN_drewN _ _ _) (congrArg (World.drewN _) (Nat.add_assoc _ _ _))⟩))|(go_at_call 25;refine X5 (args':=#[.slice A26 ((l0.take ((wrap64 (x6_9+(rd Q4 x5_1))):Int).toNat).drop (x6_9:Int).toNat).length (c0 - (x6_9:Int).toNat)]) (by rw [show((l0.take ((wrap64 (x6_9+(rd Q4 x5_1))):Int).toNat).drop (x6_9:Int).toNat).length=((wrap64 (x6_9+(rd Q4 x5_1))):Int).toNat - (x6_9:Int).toNat from (by rw [List.length_drop,List.length_take,Nat.min_eq_left (by have hm_:(wrap64 (x6_9+(rd Q4 x5_1)))≤(l0.length:Int):=dc_;omega)])]<;>rfl) ?_;(with_reducible refine(q24.calls kj9 _ _ ((l0.take ((wrap64 (x6_9+(rd Q4 x5_1))):Int).toNat).drop (x6_9:Int).toNat) aj5 _ ?side1 ?side2 A19.out).mono ?_);(case side1=>exact cb_ an1);(case side2=>exact al6.out);rintro e w' ⟨rfl,⟨nd,rfl⟩⟩;(try first|exact⟨rfl,_,World.drewN_drewN _ _ _⟩|exact⟨rfl,_,Eq.trans (World.drewN_drewN _ _ _) (congrArg (World.drewN _) (Nat.add_assoc _ _ _))⟩))|(go_at_call 25;refine X5 (args':=#[.slice A30 ((l0.take ((wrap64 (x6_9+(rd Q4 x5_1))):Int).toNat).drop (x6_9:Int).toNat).length (c0 - (x6_9:Int).toNat)]) (by rw [show((l0.take ((wrap64 (x6_9+(rd Q4 x5_1))):Int).toNat).drop (x6_9:Int).toNat).length=((wrap64 (x6_9+(rd Q4 x5_1))):Int).toNat - (x6_9:Int).toNat from (by rw [List.length_drop,List.length_take,Nat.min_eq_left (by have hm_:(wrap64 (x6_9+(rd Q4 x5_1)))≤(l0.length:Int):=dc_;omega)])]<;>rfl) ?_;(with_reducible refine(q24.calls kj9 _ _ ((l0.take ((wrap64 (x6_9+(rd Q4 x5_1))):Int).toNat).drop (x6_9:Int).toNat) aj5 _ ?side1 ?side2 A19.out).mono ?_);(case side1=>exact cb_ an1);(case side2=>exact al6.out);rintro e w' ⟨rfl,⟨nd,rfl⟩⟩;(try first|exact⟨rfl,_,World.drewN_drewN _ _ _⟩|exact⟨rfl,_,Eq.trans (World.drewN_drewN _ _ _) (congrArg (World.drewN _) (Nat.add_assoc _ _ _))⟩))|(go_at_call 25;refine X5 (args':=#[.slice A32 ((l0.take ((wrap64 (x6_9+(rd Q4 x5_1))):Int).toNat).drop (x6_9:Int).toNat).length (c0 - (x6_9:Int).toNat)]) (by rw [show((l0.take ((wrap64 (x6_9+(rd Q4 x5_1))):Int).toNat).drop (x6_9:Int).toNat).length=((wrap64 (x6_9+(rd Q4 x5_1))):Int).toNat - (x6_9:Int).toNat from (by rw [List.length_drop,List.length_take,Nat.min_eq_left (by have hm_:(wrap64 (x6_9+(rd Q4 x5_1)))≤(l0.length:Int):=dc_;omega)])]<;>rfl) ?_;(with_reducible refine(q24.calls kj9 _ _ ((l0.take ((wrap64 (x6_9+(rd Q4 x5_1))):Int).toNat).drop (x6_9:Int).toNat) aj5 _ ?side1 ?side2 A19.out).mono ?_);(case side1=>exact cb_ an1);(case side2=>exact al6.out);rintro e w' ⟨rfl,⟨nd,rfl⟩⟩;(try first|exact⟨rfl,_,World.drewN_drewN _ _ _⟩|exact⟨rfl,_,Eq.trans (World.drewN_drewN _ _ _) (congrArg (World.drewN _) (Nat.add_assoc _ _ _))⟩))|(go_at_call 34;(with_reducible refine(q46.calls (wrap64 ((-1) - (wrap64 (IntKind.u64.wrap (Int.tdiv aj5 2))))) cq1 _ A21.out).mono ?_);rintro e w' ⟨rfl,⟨nd,rfl⟩⟩;(try first|exact⟨rfl,_,World.drewN_drewN _ _ _⟩|exact⟨rfl,_,Eq.trans (World.drewN_drewN _ _ _) (congrArg (World.drewN _) (Nat.add_assoc _ _ _))⟩);(try(have F3:0≤(x5_1:Int):=dc_;have I3:x5_1<(Q4.length:Int):=dc_;obtain⟨J1,E6,Z0⟩:=Kd.at_int (Kd.R_reads' HO_4.out).2.2 x5_1 F3 I3;obtain rfl:ao6=J1:=(by injection E6);replace F3:=eq_true F3;replace I3:=eq_true I3)))|(go_at_call 34;(with_reducible refine(q46.calls (wrap64 (IntKind.u64.wrap (Int.tdiv aj5 2))) cj6 _ A27.out).mono ?_);rintro e w' ⟨rfl,⟨nd,rfl⟩⟩;(try first|exact⟨rfl,_,World.drewN_drewN _ _ _⟩|exact⟨rfl,_,Eq.trans (World.drewN_drewN _ _ _) (congrArg (World.drewN _) (Nat.add_assoc _ _ _))⟩);(try(have F3:0≤(x5_1:Int):=dc_;have I3:x5_1<(Q4.length:Int):=dc_;obtain⟨J1,E6,Z0⟩:=Kd.at_int (Kd.R_reads' HO_4.out).2.2 x5_1 F3 I3;obtain rfl:ao6=J1:=(by injection E6);replace F3:=eq_true F3;replace I3:=eq_true I3)))))
      go_ret2
      exact⟨rf_,bl_⟩
end Go.Proofs.Ytmddmbagehjdeaa.G
end
section
namespace Go.Proofs.Ytmddmbagehjdeaa.G
open Go.RowKit Go.Proofs.YtmddmbagehjdeaaX Go.Proofs.YtmddmbagehjdeaaW.PrintWords Go.Proofs.YtmddmbagehjdeaaW.PrintLast Go.Proofs.YtmddmbagehjdeaaW.PrintMore
attribute [local go_sem] S3 R3 R4 S4 P3 N3 D4 Y3
def q37.l0:Nat→List Bool→List Int→Int→Option (List Int×Int)
 |0,_,_,_=>none
 |k+1,x0,x3,x4=>if x4<(x0.length:Int)then(if 0≤x4 then(if rdOf false x0 x4=true then(if 0≤(wrap64 (Int.tdiv x4 8))then(if(wrap64 (Int.tdiv x4 8))<(x3.length:Int)then(if 0≤(IntKind.u64.wrap (wrap64 (7 - (Int.tmod x4 8))))then(q37.l0 k x0 (x3.set ((wrap64 (Int.tdiv x4 8)):Int).toNat (((rd x3 (wrap64 (Int.tdiv x4 8)))+(shl .u8 1 (IntKind.u64.wrap (wrap64 (7 - (Int.tmod x4 8)))))) % 256)) (wrap64 (x4+1)))else(none))else(none))else(none))else(q37.l0 k x0 x3 (wrap64 (x4+1))))else(none))else(some (x3,(x0.length:Int)))
def q37.f (k:Nat) (l0:List Bool):Option (List Int×Int):=if 0≤(wrap64 (Int.tdiv (wrap64 ((l0.length:Int)+7)) 8))then(if(wrap64 (Int.tdiv (wrap64 ((l0.length:Int)+7)) 8):Int).toNat≤281474976710656 then(q37.l0 k l0 (List.replicate (wrap64 (Int.tdiv (wrap64 ((l0.length:Int)+7)) 8):Int).toNat 0) 0)else(none))else(none)
theorem q37.calls (k:Nat) (A0:Option Addr) (c0:Nat) (l0:List Bool) (r1:List Int) (r2:Int) (w:World) (hr0:Kd.C Kd.bool w A0 l0.length l0) (hc0:l0.length≤c0) (h:q37.f k l0=some (r1,r2)) :
  Calls Try.prog 67 #[.slice A0 l0.length c0] w fun e w'=>∃ v0_:Value,e=.returned (.agg #[v0_,.int .i64 r2])∧Kd.R (Kd.int .u8) 5 w' w.heap.size (fun _=>True) v0_ r1∧Below w.heap.size w w':=by
 have hu25:=Try.underlying25
 have HR0:=q5.mk hr0
 have HC0:=q5.mk hc0
 clear hr0 hc0
 have HB:=q5.mk (Below.refl w.heap.size w)
 have H:(if 0≤(wrap64 (Int.tdiv (wrap64 ((l0.length:Int)+7)) 8))then(if(wrap64 (Int.tdiv (wrap64 ((l0.length:Int)+7)) 8):Int).toNat≤281474976710656 then(q37.l0 k l0 (List.replicate (wrap64 (Int.tdiv (wrap64 ((l0.length:Int)+7)) 8):Int).toNat 0) 0)else(none))else(none))=some (r1,r2):=h
 clear h
 obtain⟨ji2,hji2⟩:∃ j_:Int,(wrap64 (Int.tdiv (wrap64 ((l0.length:Int)+7)) 8))=j_:=⟨_,rfl⟩
 replace H:(if 0≤(ji2)then(if(ji2:Int).toNat≤281474976710656 then(q37.l0 k l0 (List.replicate (ji2:Int).toNat 0) 0)else(none))else(none))=some (r1,r2):=by first|(rw [hji2] at H;exact H)|(simp only [hji2] at H ⊢;exact H)
 have hji2w:(IntKind.i64.wrap (Int.tdiv (wrap64 ((l0.length:Int)+7)) 8))=ji2:=(N0 _).trans hji2
 by_cases c3:0≤(ji2)
 ·rw [if_pos c3] at H
  have c3b0:=eq_true c3
  have c3b1:decide (0≤(ji2))=true:=decide_eq_true c3
  clear c3
  by_cases c4:(ji2:Int).toNat≤281474976710656
  ·rw [if_pos c4] at H
   have c4b0:=eq_true c4
   have c4b1:decide ((ji2:Int).toNat≤281474976710656)=true:=decide_eq_true c4
   clear c4
   obtain⟨da4,bA2⟩:∃ y_:List Int,y_=(List.replicate (ji2:Int).toNat 0):=⟨_,rfl⟩
   replace H:(q37.l0 k l0 da4 0)=some (r1,r2):=by first|(rw [bA2];with_reducible exact H)|(have H2_:=(Option.bind_some _ _).symm.trans H;rw [bA2];with_reducible exact H2_)|(have H2_:=(Option.bind_some _ _).symm.trans H;with_reducible exact H2_)|with_reducible exact H|(rw [bA2];exact H)|exact H
   have cD7:=q5.mk bA2
   clear bA2
   have H':=q5.mk H
   clear H
   go_enter Try.func67,Try.ntmps67
   go_wp2_with (first|((with_reducible refine X0 (N:=2) rfl ?_);refine L2 2 #[.slice none 0 0,.int .i64 0] 25 ?_;intro bj4 hg w5 hbox hb;have n_:=pk4 (E0 bl_ hb) (hbox) ((ge_ hg bl_:w.heap.size≤bj4)) ((ge_ hg bl_:w.heap.size≤bj4));clear HB;obtain⟨HB,ao4,dq0,dq8⟩:=n_;clear hb hbox hg)|((with_reducible refine X0 (N:=9) rfl ?_);refine Kd.R_make (Kd.int .u8) _ 5 rfl (N:=9) rfl 23 _ _ rfl ji2 rfl rfl Try.underlying23 (.int .u8 0) 1 cs3 rfl (by decide) (by omega) 0 (ok:=fun _=>True) (okp:=fun _=>True) rfl (fun _ hk=>hk) trivial dc_ (Nat.le_trans (Nat.mul_le_mul_right _ (dc_:ji2.toNat≤281474976710656)) (by omega)) (Below.refl _ _) (Nat.le_refl _) ?_;intro dj6 w6 ho7 hb hg_ hnew_;clear hg_ hnew_;(first|rw [←cD7.out] at ho7|(simp only [Int.reduceToNat] at ho7;rw [←cD7.out] at ho7));have n_:=pk3 (Kd.R_lower ho7 (L0 bl_)) (F0 (bo_ ao4) hb) (E0 bl_ hb);clear ao4 HB;obtain⟨cW8,ao4,HB⟩:=n_;clear hb ho7))
   go_loopg [4] k (fun kq v4 w'=>∃ (x3_1:List Int) (x4_1:Int),v4=.int .i64 x4_1∧q5 (q37.l0 kq l0 x3_1 x4_1=some (r1,r2))∧q5 (kq≤k)∧q5 (Kd.R (Kd.int .u8) 5 w' w.heap.size (fun _=>True) dj6 x3_1)∧q5 (w'.heap[bj4]?=some (.cells #[(.slice none 0 0),.int .i64 0] 25 (0,0)))∧q5 (Below w.heap.size w w'))
   case atStart=>exact⟨(da4),(0),sm_,H',⟨Nat.le_refl _⟩,⟨(ro_ cW8)⟩,⟨(bo_ ao4)⟩,⟨bl_⟩⟩
   case round =>
    clear H'
    try clear c3
    try clear c3b0
    try clear c3b1
    try clear c4
    try clear c4b0
    try clear c4b1
    obtain⟨x3_1,x4_1,rfl,HA,HK1,HO_3,ao4,HB⟩:=hrel
    cases gk with
    |zero=>exact absurd HA.out (by simp [q37.l0])
    |succ k1 =>
     have H:=HA.out
     clear HA
     simp only [q37.l0] at H
     replace H:=dle H
     rcases H with⟨c8b0,H⟩|⟨c8b0,H⟩
     focus
      replace H:=dle H
      rcases H with⟨c9b0,H⟩|⟨c9b0,H⟩
      rotate_left
      ·exact absurd H (by simp)
      obtain⟨bq10,hbq10⟩:∃ b_:Bool,b_=(rdOf false l0 x4_1):=⟨_,rfl⟩
      replace H:(if bq10=true then(if 0≤(wrap64 (Int.tdiv x4_1 8))then(if(wrap64 (Int.tdiv x4_1 8))<(x3_1.length:Int)then(if 0≤(IntKind.u64.wrap (wrap64 (7 - (Int.tmod x4_1 8))))then(q37.l0 k1 l0 (x3_1.set ((wrap64 (Int.tdiv x4_1 8)):Int).toNat (((rd x3_1 (wrap64 (Int.tdiv x4_1 8)))+(shl .u8 1 (IntKind.u64.wrap (wrap64 (7 - (Int.tmod x4_1 8)))))) % 256)) (wrap64 (x4_1+1)))else(none))else(none))else(none))else(q37.l0 k1 l0 x3_1 (wrap64 (x4_1+1))))=some (r1,r2):=by rw [←hbq10] at H;exact H
      have Nbq10:=q5.mk hbq10
      clear hbq10
      replace H:=Q7 H
      rcases H with⟨rfl,H⟩|⟨rfl,H⟩
      focus
       obtain⟨ji12,hji12⟩:∃ j_:Int,(wrap64 (Int.tdiv x4_1 8))=j_:=⟨_,rfl⟩
       replace H:(if 0≤(ji12)then(if(ji12)<(x3_1.length:Int)then(if 0≤(IntKind.u64.wrap (wrap64 (7 - (Int.tmod x4_1 8))))then(q37.l0 k1 l0 (x3_1.set ((ji12):Int).toNat (((rd x3_1 (ji12))+(shl .u8 1 (IntKind.u64.wrap (wrap64 (7 - (Int.tmod x4_1 8)))))) % 256)) (wrap64 (x4_1+1)))else(none))else(none))else(none))=some (r1,r2):=by first|(rw [hji12] at H;exact H)|(simp only [hji12] at H ⊢;exact H)
       have hji12w:(IntKind.i64.wrap (Int.tdiv x4_1 8))=ji12:=(N0 _).trans hji12
       replace H:=dle H
       rcases H with⟨c13b0,H⟩|⟨c13b0,H⟩
       rotate_left
       ·exact absurd H (by simp)
       replace H:=dle H
       rcases H with⟨c14b0,H⟩|⟨c14b0,H⟩
       rotate_left
       ·exact absurd H (by simp)
       obtain⟨ji15,hji15⟩:∃ j_:Int,(IntKind.u64.wrap (wrap64 (7 - (Int.tmod x4_1 8))))=j_:=⟨_,rfl⟩
       replace H:(if 0≤(ji15)then(q37.l0 k1 l0 (x3_1.set ((ji12):Int).toNat (((rd x3_1 (ji12))+(shl .u8 1 (ji15))) % 256)) (wrap64 (x4_1+1)))else(none))=some (r1,r2):=by first|(rw [hji15] at H;exact H)|(simp only [hji15] at H ⊢;exact H)
       by_cases c16:0≤(ji15)
       rotate_left
       ·rw [if_neg c16] at H
        exact absurd H (by simp)
       rw [if_pos c16] at H
       have c16b0:=eq_true c16
       have c16b1:decide (0≤(ji15))=true:=decide_eq_true c16
       clear c16
       obtain⟨ji17,hji17⟩:∃ j_:Int,(shl .u8 1 (ji15))=j_:=⟨_,rfl⟩
       replace H:(q37.l0 k1 l0 (x3_1.set ((ji12):Int).toNat (((rd x3_1 (ji12))+(ji17)) % 256)) (wrap64 (x4_1+1)))=some (r1,r2):=by first|(rw [hji17] at H;exact H)|(simp only [hji17] at H ⊢;exact H)
       have hji17_:(IntKind.u8.wrap (1*2 ^ min (ji15).toNat 8))=ji17:=hji17
       have hji17z:(ji15)≤8→(IntKind.u8.wrap (1*2 ^ (ji15).toNat))=ji17:=ad0 hji17
       have hji17u:(IntKind.u8.wrap (2 ^ min (ji15).toNat 8))=ji17:=by have h_:=hji17_;rw [Int.one_mul] at h_;exact h_
       have hji17v:(ji15)≤8→(IntKind.u8.wrap (2 ^ (ji15).toNat))=ji17:=fun hle_=>by have h_:=hji17z hle_;rw [Int.one_mul] at h_;exact h_
       obtain⟨cJ2,bF8⟩:∃ y_:List Int,y_=(x3_1.set ((ji12):Int).toNat (((rd x3_1 (ji12))+(ji17)) % 256)):=⟨_,rfl⟩
       replace H:(q37.l0 k1 l0 cJ2 (wrap64 (x4_1+1)))=some (r1,r2):=by first|(rw [bF8];with_reducible exact H)|(have H2_:=(Option.bind_some _ _).symm.trans H;rw [bF8];with_reducible exact H2_)|(have H2_:=(Option.bind_some _ _).symm.trans H;with_reducible exact H2_)|with_reducible exact H|(rw [bF8];exact H)|exact H
       have dc1:=q5.mk bF8
       clear bF8
       have H':=q5.mk H
       clear H
       have bI4:0≤(x4_1:Int):=dc_
       have bK6:x4_1<(l0.length:Int):=dc_
       obtain⟨da3,cK5,aj4⟩:=Kd.at_bool HR0.out x4_1 bI4 bK6
       (try rw [←Nbq10.out] at aj4)
       cases cK5
       replace aj4:=(HB.out.cell (World.block_lt_of_cell? w _ aj4)).trans aj4
       replace bI4:=eq_true bI4
       replace bK6:=eq_true bK6
       obtain⟨Ao19,co19,eo19⟩:=Kd.R_slice HO_3.out
       subst eo19
       have cG0:0≤((ji12):Int):=dc_
       have cF5:(ji12)<(x3_1.length:Int):=dc_
       obtain⟨dr4,di4,cu5⟩:=Kd.at_int (Kd.R_reads' HO_3.out).2.2 (ji12) cG0 cF5
       cases di4
       replace cG0:=eq_true cG0
       replace cF5:=eq_true cF5
       have p18:0≤((ji12):Int):=dc_
       have q18:((ji12):Int)<((x3_1.length:Int):Int):=dc_
       obtain⟨go18,co18,eo18,gb18,gl18,cl18,HG18⟩:=Kd.R_form HO_3.out (by omega)
      rotate_left
      focus
       have H':=q5.mk H
       clear H
       have bI4:0≤(x4_1:Int):=dc_
       have bK6:x4_1<(l0.length:Int):=dc_
       obtain⟨da3,cK5,aj4⟩:=Kd.at_bool HR0.out x4_1 bI4 bK6
       (try rw [←Nbq10.out] at aj4)
       cases cK5
       replace aj4:=(HB.out.cell (World.block_lt_of_cell? w _ aj4)).trans aj4
       replace bI4:=eq_true bI4
       replace bK6:=eq_true bK6
     rotate_left 2
     focus
      simp only [Option.some.injEq,Prod.mk.injEq] at H
      obtain⟨rfl,rfl⟩:=H
      obtain⟨Ao22,co22,eo22⟩:=Kd.R_slice HO_3.out
      subst eo22
      obtain⟨hcz23_0,hcz23_1,hfz23_0,hfz23_1⟩:=N4 ao4.out
     all_goals
      first
       |go_wp2
        first
         |go_roundg k1
          case measure=>have:=HK1.out;omega
          case rel=>exact⟨(x3_1),(wrap64 (x4_1+1)),sm_,H',⟨by have:=HK1.out;omega⟩,⟨(ro_ HO_3)⟩,⟨(bo_ ao4)⟩,⟨bl_⟩⟩
         |refine bodyPost_ret (results_cell_row rfl _ _ bj4 25 #[.slice Ao22 x3_1.length co22,.int .i64 (l0.length:Int)] (0,0) _ rfl (by(with_reducible repeat(first|refine G0 ?_ _|refine J0 ?_|refine I0 ?_ _));refine D1 (cs:=#[.slice Ao22 x3_1.length co22,.int .i64 0]) ?_ 1 _ rfl;(with_reducible repeat(first|refine G0 ?_ _|refine J0 ?_|refine I0 ?_ _));refine D1 (cs:=#[.slice none 0 0,.int .i64 0]) ?_ 0 _ rfl;exact(bo_ ao4)) Try.underlying25 rfl (by kernel_rfl)) rfl ?_
          exact⟨_,by first|rfl|(simp [J3,L3]<;>rfl)|(simp only [←hji2];first|rfl|(simp [J3,L3]<;>rfl))|(simp [*,J3,L3]<;>rfl),(rt_ (Kd.R_mono (Kd.R_far (p:=⟨bj4,1,none⟩) (Kd.R_far (p:=⟨bj4,0,none⟩) (Kd.R_types HO_3.out ao4.out (by decide)) (fun _ hk=>hk.2) (.slice Ao22 x3_1.length co22)) (fun _ hk=>hk.2) (.int .i64 (l0.length:Int))) (fun _ hk=>trivial))),bl_⟩
       |(first|cases eo18|(injection eo18 with ea_ en_ ec_;(first|subst ea_|(injection ea_ with ea_;subst ea_));subst ec_;clear en_))
        have aH8:=q5.mk gb18
        have aZ8:=q5.mk HG18
        clear gb18 gl18 HG18
        (first|simp only [ag0] at cu5|skip)
        obtain⟨Z0,aw3⟩:=Kd.R_celln 0 HO_3.out ((ji12):Int) p18 q18
        replace p18:=eq_true p18
        replace q18:=eq_true q18
        have ac4:=Kd.R_putg HO_3.out ((ji12):Int) (((rd x3_1 (ji12))+(ji17)) % 256)
        go_wp2_with (first|((with_reducible refine an3 (t:=5) (p:=34) rfl ?_);refine ai1 (t:=5) (p:=34) (v:=?vo_w21) (w1:=(wr.setCell ⟨go18,((ji12):Int).toNat,none⟩ (.int .u8 (((rd x3_1 (ji12))+(ji17)) % 256)))) ?hg ?ho ?hn ?hr ?_;(case ho=>rfl);(case hg=>rfl);(case hn=>rfl);(case hr=>first|(go_simp;done)|(go_simp;rfl));intro U1 hw;have hg:wr.grownBy U1 (some go18):=(by rw [hw];exact ac4.2);have hp_:Kd.R (Kd.int .u8) 5 U1 w.heap.size (fun _=>True) (.slice (some ⟨go18,0,none⟩) x3_1.length co19) cJ2:=(by rw [hw,dc1.out];exact ac4.1);clear ac4;have n_:=pk3 (hp_) (D5 (bo_ ao4) hg (Kd.R_ne HO_3.out ao4.out (by decide))) ((by rw [hw];exact P1 (HB.out) aH8.out:Below w.heap.size w U1));clear HO_3 ao4 HB;obtain⟨HO_3,ao4,HB⟩:=n_;clear hg hw hp_))
        go_roundg k1
        case measure=>have:=HK1.out;omega
        case rel=>exact⟨(cJ2),(wrap64 (x4_1+1)),sm_,H',⟨by have:=HK1.out;omega⟩,⟨(ro_ HO_3)⟩,⟨(bo_ ao4)⟩,⟨bl_⟩⟩
  ·rw [if_neg c4] at H
   exact absurd H (by simp)
 ·rw [if_neg c3] at H
  exact absurd H (by simp)
def q14.l0:Nat→Int→List Bool→Int→Option (List Bool)
 |0,_,_,_=>none
 |k+1,x0,x5,x6=>if x6≥0 then(if 0≤x6 then(if x6<(x5.length:Int)then(q14.l0 k (IntKind.u64.wrap (Int.tdiv x0 2)) (x5.set (x6:Int).toNat ((Int.tmod x0 2) == 1)) (wrap64 (x6 - 1)))else(none))else(none))else(some x5)
def q14.f (k:Nat) (a0:Int) (a1:Int):Option (List Bool):=if 0≤a1 then(if(a1:Int).toNat≤281474976710656 then(q14.l0 k a0 (List.replicate (a1:Int).toNat false) (wrap64 (a1 - 1)))else(none))else(none)
theorem q14.calls (k:Nat) (a0:Int) (a1:Int) (r:List Bool) (w:World) (h:q14.f k a0 a1=some r) :
  Calls Try.prog 35 #[.int .u64 a0,.int .i64 a1] w fun e w'=>∃ v0_:Value,e=.returned (v0_)∧Kd.R Kd.bool 4 w' w.heap.size (fun _=>True) v0_ r∧Below w.heap.size w w':=by
 have HB:=q5.mk (Below.refl w.heap.size w)
 have H:(if 0≤a1 then(if(a1:Int).toNat≤281474976710656 then(q14.l0 k a0 (List.replicate (a1:Int).toNat false) (wrap64 (a1 - 1)))else(none))else(none))=some r:=h
 clear h
 by_cases c3:0≤a1
 ·rw [if_pos c3] at H
  have c3b0:=eq_true c3
  have c3b1:decide (0≤a1)=true:=decide_eq_true c3
  clear c3
  by_cases c4:(a1:Int).toNat≤281474976710656
  ·rw [if_pos c4] at H
   have c4b0:=eq_true c4
   have c4b1:decide ((a1:Int).toNat≤281474976710656)=true:=decide_eq_true c4
   clear c4
   obtain⟨da8,bw4⟩:∃ y_:List Bool,y_=(List.replicate (a1:Int).toNat false):=⟨_,rfl⟩
   replace H:(q14.l0 k a0 da8 (wrap64 (a1 - 1)))=some r:=by first|(rw [bw4];with_reducible exact H)|(have H2_:=(Option.bind_some _ _).symm.trans H;rw [bw4];with_reducible exact H2_)|(have H2_:=(Option.bind_some _ _).symm.trans H;with_reducible exact H2_)|with_reducible exact H|(rw [bw4];exact H)|exact H
   have cD9:=q5.mk bw4
   clear bw4
   have H':=q5.mk H
   clear H
   go_enter Try.func35,Try.ntmps35
   go_wp2_with (first|((with_reducible refine X0 (N:=8) rfl ?_);refine Kd.R_make Kd.bool _ 4 rfl (N:=8) rfl 39 _ _ rfl a1 rfl rfl Try.underlying39 (.bool false) 1 D6 rfl (by decide) (by omega) false (ok:=fun _=>True) (okp:=fun _=>True) rfl (fun _ hk=>hk) trivial dc_ (Nat.le_trans (Nat.mul_le_mul_right _ (dc_:a1.toNat≤281474976710656)) (by omega)) (Below.refl _ _) (Nat.le_refl _) ?_;intro dn9 w5 ho6 hb hg_ hnew_;clear hg_ hnew_;(first|rw [←cD9.out] at ho6|(simp only [Int.reduceToNat] at ho6;rw [←cD9.out] at ho6));have n_:=pk2 (Kd.R_lower ho6 (L0 bl_)) (E0 bl_ hb);clear HB;obtain⟨cW2,HB⟩:=n_;clear hb ho6))
   go_loopg [0,6] k (fun kq v0 v6 w'=>∃ (x0_1:Int) (x5_1:List Bool) (x6_1:Int),v0=.int .u64 x0_1∧v6=.int .i64 x6_1∧q5 (q14.l0 kq x0_1 x5_1 x6_1=some r)∧q5 (kq≤k)∧q5 (Kd.R Kd.bool 4 w' w.heap.size (fun _=>True) dn9 x5_1)∧q5 (Below w.heap.size w w'))
   case atStart=>exact⟨(a0),(da8),(wrap64 (a1 - 1)),sm_,sm_,H',⟨Nat.le_refl _⟩,⟨(ro_ cW2)⟩,⟨bl_⟩⟩
   case round =>
    clear H'
    try clear c3
    try clear c3b0
    try clear c3b1
    try clear c4
    try clear c4b0
    try clear c4b1
    obtain⟨x0_1,x5_1,x6_1,rfl,rfl,HA,HK1,HO_5,HB⟩:=hrel
    cases gk with
    |zero=>exact absurd HA.out (by simp [q14.l0])
    |succ k1 =>
     have H:=HA.out
     clear HA
     simp only [q14.l0] at H
     replace H:=dge H
     rcases H with⟨c7b0,H⟩|⟨c7b0,H⟩
     focus
      replace H:=dle H
      rcases H with⟨c8b0,H⟩|⟨c8b0,H⟩
      rotate_left
      ·exact absurd H (by simp)
      replace H:=dle H
      rcases H with⟨c9b0,H⟩|⟨c9b0,H⟩
      rotate_left
      ·exact absurd H (by simp)
      obtain⟨cJ0,bH1⟩:∃ y_:List Bool,y_=(x5_1.set (x6_1:Int).toNat ((Int.tmod x0_1 2) == 1)):=⟨_,rfl⟩
      replace H:(q14.l0 k1 (IntKind.u64.wrap (Int.tdiv x0_1 2)) cJ0 (wrap64 (x6_1 - 1)))=some r:=by first|(rw [bH1];with_reducible exact H)|(have H2_:=(Option.bind_some _ _).symm.trans H;rw [bH1];with_reducible exact H2_)|(have H2_:=(Option.bind_some _ _).symm.trans H;with_reducible exact H2_)|with_reducible exact H|(rw [bH1];exact H)|exact H
      have dd4:=q5.mk bH1
      clear bH1
      have H':=q5.mk H
      clear H
      have p10:0≤(x6_1:Int):=dc_
      have q10:(x6_1:Int)<((x5_1.length:Int):Int):=dc_
      obtain⟨go10,co10,eo10,gb10,gl10,cl10,HG10⟩:=Kd.R_form HO_5.out (by omega)
     rotate_left
     focus
      obtain rfl:=Option.some.inj H
     all_goals
      first
       |(first|cases eo10|(injection eo10 with ea_ en_ ec_;(first|subst ea_|(injection ea_ with ea_;subst ea_));subst ec_;clear en_))
        have aH8:=q5.mk gb10
        have aZ8:=q5.mk HG10
        clear gb10 gl10 HG10
        obtain⟨Z0,aw3⟩:=Kd.R_celln false HO_5.out (x6_1:Int) p10 q10
        replace p10:=eq_true p10
        replace q10:=eq_true q10
        have ac4:=Kd.R_putg HO_5.out (x6_1:Int) ((Int.tmod x0_1 2) == 1)
        go_wp2_with (first|((with_reducible refine an3 (t:=4) (p:=20) rfl ?_);refine ai1 (t:=4) (p:=20) (v:=?vo_w12) (w1:=(wr.setCell ⟨go10,(x6_1:Int).toNat,none⟩ (.bool ((Int.tmod x0_1 2) == 1)))) ?hg ?ho ?hn ?hr ?_;(case ho=>rfl);(case hg=>rfl);(case hn=>rfl);(case hr=>first|(go_simp;done)|(go_simp;rfl));intro U1 hw;have hg:wr.grownBy U1 (some go10):=(by rw [hw];exact ac4.2);have hp_:Kd.R Kd.bool 4 U1 w.heap.size (fun _=>True) (.slice (some ⟨go10,0,none⟩) x5_1.length co10) cJ0:=(by rw [hw,dd4.out];exact ac4.1);clear ac4;have n_:=pk2 (hp_) ((by rw [hw];exact P1 (HB.out) aH8.out:Below w.heap.size w U1));clear HO_5 HB;obtain⟨HO_5,HB⟩:=n_;clear hg hw hp_))
        go_roundg k1
        case measure=>have:=HK1.out;omega
        case rel=>exact⟨(IntKind.u64.wrap (Int.tdiv x0_1 2)),(cJ0),(wrap64 (x6_1 - 1)),sm_,sm_,H',⟨by have:=HK1.out;omega⟩,⟨(ro_ HO_5)⟩,⟨bl_⟩⟩
       |go_wp2
        go_ret
        exact⟨_,rf_,(ro_ HO_5),bl_⟩
  ·rw [if_neg c4] at H
   exact absurd H (by simp)
 ·rw [if_neg c3] at H
  exact absurd H (by simp)
end Go.Proofs.Ytmddmbagehjdeaa.G
end
section
namespace Go.Proofs.Ytmddmbagehjdeaa.G
open Go.RowKit Go.Proofs.YtmddmbagehjdeaaX Go.Proofs.YtmddmbagehjdeaaW.PrintWords Go.Proofs.YtmddmbagehjdeaaW.PrintLast Go.Proofs.YtmddmbagehjdeaaW.PrintMore
attribute [local go_sem] S3 R3 R4 S4 P3 N3 D4 Y3
def q17.l0:Nat→Int→List Int→Int→List Bool→Int→Option (List Bool)
 |0,_,_,_,_,_=>none
 |k+1,x0,x3,x4,x5,x6=>if x6<x4 then(if x5.length<140737488355328 then(q17.l0 k x0 x3 x4 (x5++[true]) (wrap64 (x6+1)))else(none))else(if x4<4 then(if x5.length<140737488355328 then((some (x5++[false]:List Bool)).bind fun by7=>((q51.f x0).bind fun bK5=>(if 0≤x4 then(if x4<(x3.length:Int)then((q14.f k bK5 (rd x3 x4)).bind fun aX6=>(if by7.length+aX6.length<140737488355328 then(some (by7++aX6))else(none)))else(none))else(none))))else(none))else((q51.f x0).bind fun cm7=>(if 0≤x4 then(if x4<(x3.length:Int)then((q14.f k cm7 (rd x3 x4)).bind fun bu5=>(if x5.length+bu5.length<140737488355328 then(some (x5++bu5))else(none)))else(none))else(none))))
def q17.f (k:Nat) (a0:Int):Option (List Bool):=(q46.f a0).bind fun ag1=>(q17.l0 k a0 (([0,7,12,20,64]:List Int)) ag1 (([]:List Bool)) 0)
def q17.T10:Bool×List (List Nat×List Nat):=(true,[([],[]),([],[]),([1],[1]),([],[]),([],[]),([3,4],[3,4]),([5],[5]),([2,6,2],[2,6]),([0,7,7],[0,7]),([8,8,0,1,2,3,4,5,6,7,8],[8])])
def q17.B10:List Nat:=[0,0,2,0,0,24,56,126,255,511]
theorem q17.tab10:rtab .any (ap1 Try.f32 10)=q17.T10:=by kernel_rfl
theorem q17.bits10:b8 q17.T10.2 q17.B10=true:=by kernel_rfl
end Go.Proofs.Ytmddmbagehjdeaa.G
end
