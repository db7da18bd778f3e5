/- More lines for the row. -/
import Derived.Test.YtmddmbagehjdeaaZGorillaDatas2
import Derived.Test.YtmddmbagehjdeaaProg
set_option linter.unusedVariables false
set_option linter.unusedSimpArgs false
set_option maxRecDepth 100000
set_option maxHeartbeats 8000000
section
namespace Go.Proofs.Ytmddmbagehjdeaa.G
open Go.RowKit Go.Proofs.YtmddmbagehjdeaaW.PrintWords Go.Proofs.YtmddmbagehjdeaaW.PrintLast Go.Proofs.YtmddmbagehjdeaaW.PrintMore
attribute [local go_sem] S3 R3 R4 S4 P3 N3 D4 Y3
def errW:Option Int→Value
 |none=>.nilIface
 |some c=>.iface 0 (.int .i64 c)
theorem J3:errW none=.nilIface:=rfl
theorem L3 (c:Int):errW (some c)=.iface 0 (.int .i64 c):=rfl
theorem ae7:(Try.prog.info? 3).map (fun i=>(i.zero,i.size,i.bytes))=some (some (.int .i64 0),1,8):=by kernel_rfl
theorem D6:(Try.prog.info? 4).map (fun i=>(i.zero,i.size,i.bytes))=some (some (.bool false),1,1):=by kernel_rfl
theorem cs3:(Try.prog.info? 5).map (fun i=>(i.zero,i.size,i.bytes))=some (some (.int .u8 0),1,1):=by kernel_rfl
theorem br5:(Try.prog.info? 67).map (fun i=>(i.zero,i.size,i.bytes))=some (some (.agg #[(.int .i64 0),(.int .i64 0)]),2,16):=by kernel_rfl
structure S25 where
 f0:(List Int)
 f1:Int
structure S42 where
 f0:Int
 f1:Int
structure S54 where
 f0:Int
 f1:Int
structure S67 where
 f0:Int
 f1:Int
def z67:S67:=⟨(0:Int),(0:Int)⟩
def k67:Kd S67:=Kd.iso (Kd.pair (Kd.int .i64) (Kd.int .i64)) (fun x:S67=>(x.f0,x.f1))
theorem cr7 {w:World} {x:S67} {cs:List Value} (h:k67.K w x cs):cs=[.int .i64 x.f0,.int .i64 x.f1]:=by
 obtain⟨_,_,rfl,rfl,rfl⟩:=h
 exact rfl
theorem aU2 (w:World) (base:Nat) (ok:Nat→Prop) (x:S67) :k67.M w base ok x [.int .i64 x.f0,.int .i64 x.f1]:=⟨[.int .i64 x.f0],[.int .i64 x.f1],rfl,rfl,rfl⟩
def D0 (xs:List S67) (i:Int):S67:=xs.getD i.toNat z67
theorem R2 {w:World} {A:Option Addr} {n:Nat} {xs:List S67} (h:Kd.C k67 w A n xs) (i:Int) (h0:0≤i) (h1:i<n):∃ ad ,A=some ad∧w.cell? (ad.add (i.toNat*2))=some (.int .i64 (D0 xs i).f0)∧w.cell? ⟨(ad.add (i.toNat*2)).block,(ad.add (i.toNat*2)).off+1,none⟩=some (.int .i64 (D0 xs i).f1):=by
 obtain⟨ad,c,e,_,hK,hc0⟩:=Kd.C_get h z67 i h0 h1
 have hc:∀ j u,c[j]?=some u→w.cell? (ad.add (i.toNat*2+j))=some u:=hc0
 obtain rfl:=cr7 hK
 exact⟨ad,e,hc 0 _ rfl,by rw [←ca7 _ _ 1 (by omega)];exact hc 1 _ rfl⟩
structure S98 where
 f0:(List Int)
 f1:(List ByteArray)
structure S69 where
 f0:Int
 f1:Int
 f2:Int
 f3:S25
structure S94 where
 f0:Int
 f1:Int
end Go.Proofs.Ytmddmbagehjdeaa.G
end
section
namespace Go.Proofs.Ytmddmbagehjdeaa.G
open Go.RowKit Go.Proofs.YtmddmbagehjdeaaW.PrintWords Go.Proofs.YtmddmbagehjdeaaW.PrintLast Go.Proofs.YtmddmbagehjdeaaW.PrintMore
attribute [local go_sem] S3 R3 R4 S4 P3 N3 D4 Y3
theorem dc2 (d:Nat) (w:World) (x0 y0:Int) (x1 y1:Int) :
  (Op.equalIn (d+2) 67 (.agg #[.int .i64 x0,.int .i64 x1]) (.agg #[.int .i64 y0,.int .i64 y1])).run Try.prog w=.ok (x0 == y0 && (x1 == y1)) w:=by
 refine cM9 Try.underlying67 (by kernel_rfl) ?_
 refine ck0 (by rfl) (by go_simp;rfl) (by go_simp;rfl) (by go_simp) ?_
 exact cs2 (by rfl) (by go_simp;rfl) (by go_simp;rfl) (by go_simp)
end Go.Proofs.Ytmddmbagehjdeaa.G
end
section
namespace Go.Proofs.YtmddmbagehjdeaaX
open Go Go.RowKit Go.Proofs.YtmddmbagehjdeaaW.PrintWords Go.Proofs.YtmddmbagehjdeaaW.PrintLast Go.Proofs.YtmddmbagehjdeaaW.PrintMore
theorem N2 {α β:Type} {o:Option α} {f:α→Option β} {r:β} (H:o.bind f=some r):∃ t,q5 (o=some t)∧f t=some r:=by
 obtain⟨t,h1,h2⟩:=Option.bind_eq_some_iff.mp H
 exact⟨t,q5.mk h1,h2⟩
theorem Q7 {α:Type} {b:Bool} {x y r:α} (H:(if b=true then x else y)=r):(b=true∧x=r)∨(b=false∧y=r):=by
 cases b
 ·exact .inr ⟨rfl,by rwa [if_neg (by decide)] at H⟩
 ·exact .inl ⟨rfl,by rwa [if_pos rfl] at H⟩
theorem dle {α:Type} {p:Prop} [i:Decidable p] {x y r:α} (H:(if p then x else y)=r):(decide p=true∧x=r)∨(decide p=false∧y=r):=by
 by_cases h:p
 ·exact .inl ⟨decide_eq_true h,by rwa [if_pos h] at H⟩
 ·exact .inr ⟨decide_eq_false h,by rwa [if_neg h] at H⟩
theorem dgt {α:Type} {a b:Int} [i:Decidable (a>b)] {x y r:α} (H:(if a>b then x else y)=r):(decide (b<a)=true∧x=r)∨(decide (b<a)=false∧y=r):=by
 by_cases h:a>b
 ·exact .inl ⟨decide_eq_true h,by rwa [if_pos h] at H⟩
 ·exact .inr ⟨decide_eq_false h,by rwa [if_neg h] at H⟩
theorem dge {α:Type} {a b:Int} [i:Decidable (a≥b)] {x y r:α} (H:(if a≥b then x else y)=r):(decide (b≤a)=true∧x=r)∨(decide (b≤a)=false∧y=r):=by
 by_cases h:a≥b
 ·exact .inl ⟨decide_eq_true h,by rwa [if_pos h] at H⟩
 ·exact .inr ⟨decide_eq_false h,by rwa [if_neg h] at H⟩
theorem deq {α β:Type} [BEq β] [LawfulBEq β] {a b:β} [i:Decidable (a=b)] {x y r:α} (H:(if a=b then x else y)=r):((a == b)=true∧(a != b)=false∧x=r)∨((a == b)=false∧(a != b)=true∧y=r):=by
 by_cases h:a=b
 ·exact .inl ⟨beq_iff_eq.mpr h,bne_eq_false_iff_eq.mpr h,by rwa [if_pos h] at H⟩
 ·exact .inr ⟨beq_eq_false_iff_ne.mpr h,bne_iff_ne.mpr h,by rwa [if_neg h] at H⟩
theorem deqn {α β:Type} [BEq β] [LawfulBEq β] {a b:β} [i:Decidable (a=b)] {x y r:α} (H:(if a=b then x else y)=r):((a == b)=true∧(a != b)=false∧x=r)∨((a == b)=false∧(a != b)=true∧¬ a=b∧y=r):=by
 by_cases h:a=b
 ·exact .inl ⟨beq_iff_eq.mpr h,bne_eq_false_iff_eq.mpr h,by rwa [if_pos h] at H⟩
 ·exact .inr ⟨beq_eq_false_iff_ne.mpr h,bne_iff_ne.mpr h,h,by rwa [if_neg h] at H⟩
theorem N4 {W:World} {g T:Nat} {v0 v1:Value} (h:W.heap[g]?=some (.cells #[v0,v1] T (0,0))):W.cell? ⟨g,0,none⟩=some v0∧W.cell? ⟨g,1,none⟩=some v1∧W.frozen? ⟨g,0,none⟩=false∧W.frozen? ⟨g,1,none⟩=false:=⟨(m0 h 0).trans rfl,(m0 h 1).trans rfl,t0 h 0,t0 h 1⟩
theorem X4 {W:World} {g T:Nat} {v0 v1 v2 v3 v4:Value} (h:W.heap[g]?=some (.cells #[v0,v1,v2,v3,v4] T (0,0))):W.cell? ⟨g,0,none⟩=some v0∧W.cell? ⟨g,1,none⟩=some v1∧W.cell? ⟨g,2,none⟩=some v2∧W.cell? ⟨g,3,none⟩=some v3∧W.cell? ⟨g,4,none⟩=some v4∧W.frozen? ⟨g,0,none⟩=false∧W.frozen? ⟨g,1,none⟩=false∧W.frozen? ⟨g,2,none⟩=false∧W.frozen? ⟨g,3,none⟩=false∧W.frozen? ⟨g,4,none⟩=false:=⟨(m0 h 0).trans rfl,(m0 h 1).trans rfl,(m0 h 2).trans rfl,(m0 h 3).trans rfl,(m0 h 4).trans rfl,t0 h 0,t0 h 1,t0 h 2,t0 h 3,t0 h 4⟩
theorem bI6 {w W:World} {g j:Nat} {v:Value} (h:Below w.heap.size w W) (hg:q5 (w.heap.size≤g)):Below w.heap.size w (W.setCell ⟨g,j,none⟩ v):=P1 h hg.out
theorem bl_ {b:Nat} {w W:World} (h:Below b w W:=by repeat(first|(with_reducible first|exact HB.out|apply R1|apply M1|apply N1|refine bI6 ?_ (by assumption))|exact HB.out)):Below b w W:=h
theorem rf_ {p:Prop} (h:p:=by first|rfl|(simp [J3,L3]<;>rfl)|(simp [*,J3,L3]<;>rfl)):p:=h
theorem nl_ {p:Prop} (h:p:=by first|exact Kd.R_nil _ _ _ _ _|exact Kd.N_nil _ _ _ _ _|exact Kd.V_nil _ _ _ _ _|exact Kd.Q_nil _ _ _ _ _|exact Kd.S_nil _ _ _ _ _):p:=h
theorem sm_ {p:Prop} (h:p:=by first|rfl|(simp;done)|(simp [*];done)):p:=h
theorem om_ {a b:Nat} (h:a≤b:=by first|omega|exact Nat.le_refl _):a≤b:=h
theorem dc_ {p:Prop} [i:Decidable p] (h:decide p=true:=by first|(with_reducible assumption)|assumption):p:=of_decide_eq_true h
theorem ge_ {w W:World} {g:Nat} (hg:g=W.heap.size) (h:Below w.heap.size w W):w.heap.size≤g:=by rw [hg];exact L0 h
theorem nb_ {W:World} {g g':Nat} {o:Obj} (hg:g'=W.heap.size) (h:W.heap[g]?=some o):g≠g':=by rw [hg];exact Nat.ne_of_lt (U6 h)
theorem nc_ {W:World} {g g':Nat} {o:Obj} (hg:g'=W.heap.size) (h:W.heap[g]?=some o):g'≠g:=by rw [hg];exact Nat.ne_of_gt (U6 h)
theorem bo_ {W W1:World} {g:Nat} {o:Obj} (h:q5 (W.heap[g]?=some o)) (k:W.heap[g]?=some o→W1.heap[g]?=some o:=by intro h_;(with_reducible repeat(first|refine G0 ?_ _|refine J0 ?_|refine I0 ?_ _));exact h_):W1.heap[g]?=some o:=k h.out
theorem ro_ {α:Type} {d:Kd α} {e base:Nat} {W W1:World} {ok:Nat→Prop} {v:Value} {xs:List α} (h:q5 (Kd.R d e W base ok v xs)) (k:Kd.R d e W base ok v xs→Kd.R d e W1 base ok v xs:=by intro h_;(with_reducible repeat(first|apply Kd.R_alloc|apply Kd.R_drewN|apply Kd.R_drew));exact h_):Kd.R d e W1 base ok v xs:=k h.out
theorem rt_ {α:Type} {d:Kd α} {e base:Nat} {W W1:World} {ok:Nat→Prop} {v:Value} {xs:List α} (h:Kd.R d e W base ok v xs) (k:Kd.R d e W base ok v xs→Kd.R d e W1 base ok v xs:=by intro h_;(with_reducible repeat(first|apply Kd.R_alloc|apply Kd.R_drewN|apply Kd.R_drew));exact h_):Kd.R d e W1 base ok v xs:=k h
theorem vo_ {α:Type} {d:Kd α} {e base:Nat} {W W1:World} {ok:Nat→Prop} {v:Value} {xs:List α} (h:q5 (Kd.V d e W base ok v xs)) (k:Kd.V d e W base ok v xs→Kd.V d e W1 base ok v xs:=by intro h_;(with_reducible repeat(first|apply Kd.V_alloc|apply Kd.V_drewN|apply Kd.V_drew));exact h_):Kd.V d e W1 base ok v xs:=k h.out
theorem vt_ {α:Type} {d:Kd α} {e base:Nat} {W W1:World} {ok:Nat→Prop} {v:Value} {xs:List α} (h:Kd.V d e W base ok v xs) (k:Kd.V d e W base ok v xs→Kd.V d e W1 base ok v xs:=by intro h_;(with_reducible repeat(first|apply Kd.V_alloc|apply Kd.V_drewN|apply Kd.V_drew));exact h_):Kd.V d e W1 base ok v xs:=k h
theorem cc_ {α:Type} {d:Kd α} {W W1:World} {A:Option Addr} {n:Nat} {xs:List α} (h:q5 (Kd.C d W A n xs)) (k:Kd.C d W A n xs→Kd.C d W1 A n xs:=by intro h_;repeat(first|exact h_|(with_reducible refine Kd.C_alloc ?_ _)|(with_reducible refine Kd.C_drewN ?_ _)|(with_reducible refine Kd.C_drew ?_))):Kd.C d W1 A n xs:=k h.out
theorem cb_ {α:Type} {d:Kd α} {W W1:World} {A:Option Addr} {n:Nat} {xs:List α} (h:q5 (Kd.C d W A n xs)) (k:Kd.C d W A n xs→Kd.C d W1 A n xs:=by intro h_;repeat(first|exact Kd.C_below h_ HB.out|(with_reducible refine Kd.C_alloc ?_ _)|(with_reducible refine Kd.C_drewN ?_ _)|(with_reducible refine Kd.C_drew ?_))):Kd.C d W1 A n xs:=k h.out
theorem cr_ {α:Type} {d:Kd α} {e base n c:Nat} {W W1:World} {ok:Nat→Prop} {A:Option Addr} {xs:List α} (h:q5 (Kd.R d e W base ok (.slice A n c) xs)) (k:Kd.C d W A xs.length xs→Kd.C d W1 A xs.length xs:=by intro h_;repeat(first|exact h_|(with_reducible refine Kd.C_alloc ?_ _)|(with_reducible refine Kd.C_drewN ?_ _)|(with_reducible refine Kd.C_drew ?_))):Kd.C d W1 A xs.length xs:=k (Kd.R_reads' h.out).2.2
theorem cv_ {α:Type} {d:Kd α} {e base n c:Nat} {W W1:World} {ok:Nat→Prop} {A:Option Addr} {xs:List α} (h:q5 (Kd.V d e W base ok (.slice A n c) xs)) (k:Kd.C d W A xs.length xs→Kd.C d W1 A xs.length xs:=by intro h_;repeat(first|exact h_|(with_reducible refine Kd.C_alloc ?_ _)|(with_reducible refine Kd.C_drewN ?_ _)|(with_reducible refine Kd.C_drew ?_))):Kd.C d W1 A xs.length xs:=k (Kd.V_reads' h.out).2.2
theorem pk2 {p0 p1:Prop} (h0:p0) (h1:p1):q5 p0∧q5 p1:=⟨⟨h0⟩,⟨h1⟩⟩
theorem pk3 {p0 p1 p2:Prop} (h0:p0) (h1:p1) (h2:p2):q5 p0∧q5 p1∧q5 p2:=⟨⟨h0⟩,⟨h1⟩,⟨h2⟩⟩
theorem pk4 {p0 p1 p2 p3:Prop} (h0:p0) (h1:p1) (h2:p2) (h3:p3):q5 p0∧q5 p1∧q5 p2∧q5 p3:=⟨⟨h0⟩,⟨h1⟩,⟨h2⟩,⟨h3⟩⟩
theorem pk5 {p0 p1 p2 p3 p4:Prop} (h0:p0) (h1:p1) (h2:p2) (h3:p3) (h4:p4):q5 p0∧q5 p1∧q5 p2∧q5 p3∧q5 p4:=⟨⟨h0⟩,⟨h1⟩,⟨h2⟩,⟨h3⟩,⟨h4⟩⟩
theorem pk6 {p0 p1 p2 p3 p4 p5:Prop} (h0:p0) (h1:p1) (h2:p2) (h3:p3) (h4:p4) (h5:p5):q5 p0∧q5 p1∧q5 p2∧q5 p3∧q5 p4∧q5 p5:=⟨⟨h0⟩,⟨h1⟩,⟨h2⟩,⟨h3⟩,⟨h4⟩,⟨h5⟩⟩
theorem pk7 {p0 p1 p2 p3 p4 p5 p6:Prop} (h0:p0) (h1:p1) (h2:p2) (h3:p3) (h4:p4) (h5:p5) (h6:p6):q5 p0∧q5 p1∧q5 p2∧q5 p3∧q5 p4∧q5 p5∧q5 p6:=⟨⟨h0⟩,⟨h1⟩,⟨h2⟩,⟨h3⟩,⟨h4⟩,⟨h5⟩,⟨h6⟩⟩
theorem pk8 {p0 p1 p2 p3 p4 p5 p6 p7:Prop} (h0:p0) (h1:p1) (h2:p2) (h3:p3) (h4:p4) (h5:p5) (h6:p6) (h7:p7):q5 p0∧q5 p1∧q5 p2∧q5 p3∧q5 p4∧q5 p5∧q5 p6∧q5 p7:=⟨⟨h0⟩,⟨h1⟩,⟨h2⟩,⟨h3⟩,⟨h4⟩,⟨h5⟩,⟨h6⟩,⟨h7⟩⟩
theorem pk9 {p0 p1 p2 p3 p4 p5 p6 p7 p8:Prop} (h0:p0) (h1:p1) (h2:p2) (h3:p3) (h4:p4) (h5:p5) (h6:p6) (h7:p7) (h8:p8):q5 p0∧q5 p1∧q5 p2∧q5 p3∧q5 p4∧q5 p5∧q5 p6∧q5 p7∧q5 p8:=⟨⟨h0⟩,⟨h1⟩,⟨h2⟩,⟨h3⟩,⟨h4⟩,⟨h5⟩,⟨h6⟩,⟨h7⟩,⟨h8⟩⟩
theorem pk10 {p0 p1 p2 p3 p4 p5 p6 p7 p8 p9:Prop} (h0:p0) (h1:p1) (h2:p2) (h3:p3) (h4:p4) (h5:p5) (h6:p6) (h7:p7) (h8:p8) (h9:p9):q5 p0∧q5 p1∧q5 p2∧q5 p3∧q5 p4∧q5 p5∧q5 p6∧q5 p7∧q5 p8∧q5 p9:=⟨⟨h0⟩,⟨h1⟩,⟨h2⟩,⟨h3⟩,⟨h4⟩,⟨h5⟩,⟨h6⟩,⟨h7⟩,⟨h8⟩,⟨h9⟩⟩
theorem pk11 {p0 p1 p2 p3 p4 p5 p6 p7 p8 p9 p10:Prop} (h0:p0) (h1:p1) (h2:p2) (h3:p3) (h4:p4) (h5:p5) (h6:p6) (h7:p7) (h8:p8) (h9:p9) (h10:p10):q5 p0∧q5 p1∧q5 p2∧q5 p3∧q5 p4∧q5 p5∧q5 p6∧q5 p7∧q5 p8∧q5 p9∧q5 p10:=⟨⟨h0⟩,⟨h1⟩,⟨h2⟩,⟨h3⟩,⟨h4⟩,⟨h5⟩,⟨h6⟩,⟨h7⟩,⟨h8⟩,⟨h9⟩,⟨h10⟩⟩
theorem pk12 {p0 p1 p2 p3 p4 p5 p6 p7 p8 p9 p10 p11:Prop} (h0:p0) (h1:p1) (h2:p2) (h3:p3) (h4:p4) (h5:p5) (h6:p6) (h7:p7) (h8:p8) (h9:p9) (h10:p10) (h11:p11):q5 p0∧q5 p1∧q5 p2∧q5 p3∧q5 p4∧q5 p5∧q5 p6∧q5 p7∧q5 p8∧q5 p9∧q5 p10∧q5 p11:=⟨⟨h0⟩,⟨h1⟩,⟨h2⟩,⟨h3⟩,⟨h4⟩,⟨h5⟩,⟨h6⟩,⟨h7⟩,⟨h8⟩,⟨h9⟩,⟨h10⟩,⟨h11⟩⟩
section
variable {P : Program} {ops : Array Oper} {rest : List Oper} {o : Oper} {a : Act} {Q : Exit → Act → World → Prop}
theorem L2 {W:World} (N:Tmp) (cs:Array Value) (t:TypeId)
  (h:∀ g,g=W.heap.size→∀ w1,w1.heap[g]?=some (.cells cs t (0,0))→Below W.heap.size W w1→wpList P ops Q rest (a.put o.dst (.pointer (some ⟨g,0,none⟩))) w1)
  (hgd:o.guard=none:=by rfl) (hd:o.dst=some N:=by rfl) (hrun:(execOp a.eval o).run P W=.ok (.value (.pointer (some ⟨W.heap.size,0,none⟩))) (W.alloc (.cells cs t (0,0))):=by first|(go_simp;done)|(go_simp;rfl)):wpList P ops Q (o::rest) a W :=
 ca6 hgd hd hrun h
theorem goL_ {W:World} (N:Option Tmp) {f:FuncId} {fn:Func} {as_:Array Operand} {ts:Array TypeId} (hf:P.funcs[f]?=some fn) (args:Array Value)
  (h:Calls P f args W fun e w'=>∃ v,e=.returned v∧wpList P ops Q rest (a.put N v) w')
  (hd : o.dst = N := by rfl) (hg : o.guard = none := by rfl) (hname : (fn.name == "runtime.NumGoroutine") = false := by kernel_rfl) (hb : fn.body.isSome = true := by rfl)
  (hop:o.op=.call { callee:=.value (.func f),args:=as_,argTypes:=ts }:=by rfl) (hargs:as_.map a.eval=args:=by(try simp only [List.map_toArray,List.map_cons,List.map_nil]);first|done|rfl|(simp only [List.length_drop,List.length_take];rfl)):wpList P ops Q (o::rest) a W :=
 cO8 N hd hg hf hname hb args hop hargs h
end
end Go.Proofs.YtmddmbagehjdeaaX
end
section
namespace Go.Proofs.Ytmddmbagehjdeaa.G
open Go.RowKit Go.Proofs.YtmddmbagehjdeaaX Go.Proofs.YtmddmbagehjdeaaW.PrintWords Go.Proofs.YtmddmbagehjdeaaW.PrintLast Go.Proofs.YtmddmbagehjdeaaW.PrintMore
attribute [local go_sem] S3 R3 R4 S4 P3 N3 D4 Y3
def q70.f (a0:Int):Option (Int):=some (Go.bits .xor .u64 (IntKind.u64.wrap ((IntKind.u64.wrap (a0))*2)) (IntKind.u64.wrap (a0 / 9223372036854775808)))
theorem q70.calls (a0:Int) (r:Int) (w:World) (h:q70.f a0=some r) :
  Calls Try.prog 62 #[.int .i64 a0] w fun e w'=>e=.returned (.int .u64 r)∧L1 w w':=by
 have H:(some (Go.bits .xor .u64 (IntKind.u64.wrap ((IntKind.u64.wrap (a0))*2)) (IntKind.u64.wrap (a0 / 9223372036854775808))))=some r:=h
 clear h
 obtain rfl:=Option.some.inj H
 go_enter Try.func62,Try.ntmps62
 go_wp2
 go_ret
 exact⟨by first|rfl|(simp;done)|(simp [*];done),by repeat(first|exact L1.refl _|apply L1.step)⟩
def q61.f (a0:Int):Option (Int):=if a0=0 then(some 0)else(if a0=1 then(some 7)else(if a0=2 then(some 12)else(if a0=3 then(some 20)else(some 64))))
theorem q61.calls (a0:Int) (r:Int) (w:World) (h:q61.f a0=some r) :
  Calls Try.prog 63 #[.int .i64 a0] w fun e w'=>e=.returned (.int .i64 r)∧L1 w w':=by
 have H:(if a0=0 then(some 0)else(if a0=1 then(some 7)else(if a0=2 then(some 12)else(if a0=3 then(some 20)else(some 64)))))=some r:=h
 clear h
 replace H:=deqn H
 rcases H with⟨c2b0,c2b1,H⟩|⟨c2b0,c2b1,c2,H⟩
 focus
  obtain rfl:=Option.some.inj H
 rotate_left
 focus
  replace H:=deqn H
  rcases H with⟨c3b0,c3b1,H⟩|⟨c3b0,c3b1,c3,H⟩
  focus
   obtain rfl:=Option.some.inj H
  rotate_left
  focus
   replace H:=deqn H
   rcases H with⟨c4b0,c4b1,H⟩|⟨c4b0,c4b1,c4,H⟩
   focus
    obtain rfl:=Option.some.inj H
   rotate_left
   focus
    replace H:=deqn H
    rcases H with⟨c5b0,c5b1,H⟩|⟨c5b0,c5b1,c5,H⟩
    focus
     obtain rfl:=Option.some.inj H
    rotate_left
    focus
     obtain rfl:=Option.some.inj H
 all_goals
  go_enter Try.func63,Try.ntmps63
  go_wp2
  go_ret
  exact⟨by first|rfl|(simp;done)|(simp [*];done),by repeat(first|exact L1.refl _|apply L1.step)⟩
end Go.Proofs.Ytmddmbagehjdeaa.G
end
