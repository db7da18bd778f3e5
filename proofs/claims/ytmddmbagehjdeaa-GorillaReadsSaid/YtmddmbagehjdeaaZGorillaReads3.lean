/- More lines for the row. -/
import Derived.Test.YtmddmbagehjdeaaZGorillaReads2
import Derived.Test.YtmddmbagehjdeaaProg
set_option linter.unusedVariables false
set_option linter.unusedSimpArgs false
set_option maxRecDepth 100000
set_option maxHeartbeats 8000000
section
namespace Go.Proofs.Ytmddmbagehjdeaa.G
open Go.RowKit Go.Proofs.YtmddmbagehjdeaaW.PrintWords Go.Proofs.YtmddmbagehjdeaaW.PrintLast Go.Proofs.YtmddmbagehjdeaaW.PrintMore
attribute [local go_sem] max2_int min2_int max_two min_two max_three min_three max_four min_four
def errW:Option Int→Value
 |none=>.nilIface
 |some c=>.iface 0 (.int .i64 c)
theorem errW_none:errW none=.nilIface:=rfl
theorem errW_some (c:Int):errW (some c)=.iface 0 (.int .i64 c):=rfl
theorem info3:(Try.prog.info? 3).map (fun i=>(i.zero,i.size,i.bytes))=some (some (.int .i64 0),1,8):=by kernel_rfl
theorem info4:(Try.prog.info? 4).map (fun i=>(i.zero,i.size,i.bytes))=some (some (.bool false),1,1):=by kernel_rfl
theorem info5:(Try.prog.info? 5).map (fun i=>(i.zero,i.size,i.bytes))=some (some (.int .u8 0),1,1):=by kernel_rfl
theorem info67:(Try.prog.info? 67).map (fun i=>(i.zero,i.size,i.bytes))=some (some (.agg #[(.int .i64 0),(.int .i64 0)]),2,16):=by kernel_rfl
structure S25 where
 f0:(List Int)
 f1:Int
structure S42 where
 f0:Int
 f1:Int
structure S67 where
 f0:Int
 f1:Int
def z67:S67:=⟨(0:Int),(0:Int)⟩
def k67:Kd S67:=Kd.iso (Kd.pair (Kd.int .i64) (Kd.int .i64)) (fun x:S67=>(x.f0,x.f1))
theorem k67_open {w:World} {x:S67} {cs:List Value} (h:k67.K w x cs):cs=[.int .i64 x.f0,.int .i64 x.f1]:=by
 obtain⟨_,_,rfl,rfl,rfl⟩:=h
 exact rfl
theorem k67_mkM (w:World) (base:Nat) (ok:Nat→Prop) (x:S67) :k67.M w base ok x [.int .i64 x.f0,.int .i64 x.f1]:=⟨[.int .i64 x.f0],[.int .i64 x.f1],rfl,rfl,rfl⟩
def rd_T67 (xs:List S67) (i:Int):S67:=xs.getD i.toNat z67
theorem at_T67 {w:World} {A:Option Addr} {n:Nat} {xs:List S67} (h:Kd.C k67 w A n xs) (i:Int) (h0:0≤i) (h1:i<n):∃ ad ,A=some ad∧w.cell? (ad.add (i.toNat*2))=some (.int .i64 (rd_T67 xs i).f0)∧w.cell? ⟨(ad.add (i.toNat*2)).block,(ad.add (i.toNat*2)).off+1,none⟩=some (.int .i64 (rd_T67 xs i).f1):=by
 obtain⟨ad,c,e,_,hK,hc0⟩:=Kd.C_get h z67 i h0 h1
 have hc:∀ j u,c[j]?=some u→w.cell? (ad.add (i.toNat*2+j))=some u:=hc0
 obtain rfl:=k67_open hK
 exact⟨ad,e,hc 0 _ rfl,by rw [←add_field _ _ 1 (by omega)];exact hc 1 _ rfl⟩
structure S98 where
 f0:(List Int)
 f1:(List ByteArray)
structure S69 where
 f0:Int
 f1:Int
 f2:Int
 f3:S25
structure S94 where
 f0:Int
 f1:Int
end Go.Proofs.Ytmddmbagehjdeaa.G
end
section
namespace Go.Proofs.YtmddmbagehjdeaaX
open Go Go.RowKit Go.Proofs.YtmddmbagehjdeaaW.PrintWords Go.Proofs.YtmddmbagehjdeaaW.PrintLast Go.Proofs.YtmddmbagehjdeaaW.PrintMore
theorem bindA {α β:Type} {o:Option α} {f:α→Option β} {r:β} (H:o.bind f=some r):∃ t,Aside0 (o=some t)∧f t=some r:=by
 obtain⟨t,h1,h2⟩:=Option.bind_eq_some_iff.mp H
 exact⟨t,Aside0.mk h1,h2⟩
theorem dbool {α:Type} {b:Bool} {x y r:α} (H:(if b=true then x else y)=r):(b=true∧x=r)∨(b=false∧y=r):=by
 cases b
 ·exact .inr ⟨rfl,by rwa [if_neg (by decide)] at H⟩
 ·exact .inl ⟨rfl,by rwa [if_pos rfl] at H⟩
theorem dle {α:Type} {p:Prop} [i:Decidable p] {x y r:α} (H:(if p then x else y)=r):(decide p=true∧x=r)∨(decide p=false∧y=r):=by
 by_cases h:p
 ·exact .inl ⟨decide_eq_true h,by rwa [if_pos h] at H⟩
 ·exact .inr ⟨decide_eq_false h,by rwa [if_neg h] at H⟩
theorem dgt {α:Type} {a b:Int} [i:Decidable (a>b)] {x y r:α} (H:(if a>b then x else y)=r):(decide (b<a)=true∧x=r)∨(decide (b<a)=false∧y=r):=by
 by_cases h:a>b
 ·exact .inl ⟨decide_eq_true h,by rwa [if_pos h] at H⟩
 ·exact .inr ⟨decide_eq_false h,by rwa [if_neg h] at H⟩
theorem dge {α:Type} {a b:Int} [i:Decidable (a≥b)] {x y r:α} (H:(if a≥b then x else y)=r):(decide (b≤a)=true∧x=r)∨(decide (b≤a)=false∧y=r):=by
 by_cases h:a≥b
 ·exact .inl ⟨decide_eq_true h,by rwa [if_pos h] at H⟩
 ·exact .inr ⟨decide_eq_false h,by rwa [if_neg h] at H⟩
theorem deqn {α β:Type} [BEq β] [LawfulBEq β] {a b:β} [i:Decidable (a=b)] {x y r:α} (H:(if a=b then x else y)=r):((a == b)=true∧(a != b)=false∧x=r)∨((a == b)=false∧(a != b)=true∧¬ a=b∧y=r):=by
 by_cases h:a=b
 ·exact .inl ⟨beq_iff_eq.mpr h,bne_eq_false_iff_eq.mpr h,by rwa [if_pos h] at H⟩
 ·exact .inr ⟨beq_eq_false_iff_ne.mpr h,bne_iff_ne.mpr h,h,by rwa [if_neg h] at H⟩
theorem blk_at1 {W:World} {g T:Nat} {v0:Value} (h:W.heap[g]?=some (.cells #[v0] T (0,0))):W.cell? ⟨g,0,none⟩=some v0∧W.frozen? ⟨g,0,none⟩=false:=⟨(blk_cell h 0).trans rfl,blk_frozen h 0⟩
theorem blk_at2 {W:World} {g T:Nat} {v0 v1:Value} (h:W.heap[g]?=some (.cells #[v0,v1] T (0,0))):W.cell? ⟨g,0,none⟩=some v0∧W.cell? ⟨g,1,none⟩=some v1∧W.frozen? ⟨g,0,none⟩=false∧W.frozen? ⟨g,1,none⟩=false:=⟨(blk_cell h 0).trans rfl,(blk_cell h 1).trans rfl,blk_frozen h 0,blk_frozen h 1⟩
theorem blk_at5 {W:World} {g T:Nat} {v0 v1 v2 v3 v4:Value} (h:W.heap[g]?=some (.cells #[v0,v1,v2,v3,v4] T (0,0))):W.cell? ⟨g,0,none⟩=some v0∧W.cell? ⟨g,1,none⟩=some v1∧W.cell? ⟨g,2,none⟩=some v2∧W.cell? ⟨g,3,none⟩=some v3∧W.cell? ⟨g,4,none⟩=some v4∧W.frozen? ⟨g,0,none⟩=false∧W.frozen? ⟨g,1,none⟩=false∧W.frozen? ⟨g,2,none⟩=false∧W.frozen? ⟨g,3,none⟩=false∧W.frozen? ⟨g,4,none⟩=false:=⟨(blk_cell h 0).trans rfl,(blk_cell h 1).trans rfl,(blk_cell h 2).trans rfl,(blk_cell h 3).trans rfl,(blk_cell h 4).trans rfl,blk_frozen h 0,blk_frozen h 1,blk_frozen h 2,blk_frozen h 3,blk_frozen h 4⟩
theorem below_set_ {w W:World} {g j:Nat} {v:Value} (h:Below w.heap.size w W) (hg:Aside0 (w.heap.size≤g)):Below w.heap.size w (W.setCell ⟨g,j,none⟩ v):=below_set h hg.out
theorem bl_ {b:Nat} {w W:World} (h:Below b w W:=by repeat(first|(with_reducible first|exact HB.out|apply below_alloc|apply pw_below_drewN|apply below_drew1|refine below_set_ ?_ (by assumption))|exact HB.out)):Below b w W:=h
theorem rf_ {p:Prop} (h:p:=by first|rfl|(simp [errW_none,errW_some]<;>rfl)|(simp [*,errW_none,errW_some]<;>rfl)):p:=h
theorem nl_ {p:Prop} (h:p:=by first|exact Kd.R_nil _ _ _ _ _|exact Kd.N_nil _ _ _ _ _|exact Kd.V_nil _ _ _ _ _|exact Kd.Q_nil _ _ _ _ _|exact Kd.S_nil _ _ _ _ _):p:=h
theorem sm_ {p:Prop} (h:p:=by first|rfl|(simp;done)|(simp [*];done)):p:=h
theorem om_ {a b:Nat} (h:a≤b:=by first|omega|exact Nat.le_refl _):a≤b:=h
theorem dc_ {p:Prop} [i:Decidable p] (h:decide p=true:=by first|(with_reducible assumption)|assumption):p:=of_decide_eq_true h
theorem ge_ {w W:World} {g:Nat} (hg:g=W.heap.size) (h:Below w.heap.size w W):w.heap.size≤g:=by rw [hg];exact below_size h
theorem nb_ {W:World} {g g':Nat} {o:Obj} (hg:g'=W.heap.size) (h:W.heap[g]?=some o):g≠g':=by rw [hg];exact Nat.ne_of_lt (blk_lt h)
theorem nc_ {W:World} {g g':Nat} {o:Obj} (hg:g'=W.heap.size) (h:W.heap[g]?=some o):g'≠g:=by rw [hg];exact Nat.ne_of_gt (blk_lt h)
theorem bo_ {W W1:World} {g:Nat} {o:Obj} (h:Aside0 (W.heap[g]?=some o)) (k:W.heap[g]?=some o→W1.heap[g]?=some o:=by intro h_;(with_reducible repeat(first|refine blk_drewN ?_ _|refine blk_drew ?_|refine blk_alloc ?_ _));exact h_):W1.heap[g]?=some o:=k h.out
theorem ro_ {α:Type} {d:Kd α} {e base:Nat} {W W1:World} {ok:Nat→Prop} {v:Value} {xs:List α} (h:Aside0 (Kd.R d e W base ok v xs)) (k:Kd.R d e W base ok v xs→Kd.R d e W1 base ok v xs:=by intro h_;(with_reducible repeat(first|apply Kd.R_alloc|apply Kd.R_drewN|apply Kd.R_drew));exact h_):Kd.R d e W1 base ok v xs:=k h.out
theorem rt_ {α:Type} {d:Kd α} {e base:Nat} {W W1:World} {ok:Nat→Prop} {v:Value} {xs:List α} (h:Kd.R d e W base ok v xs) (k:Kd.R d e W base ok v xs→Kd.R d e W1 base ok v xs:=by intro h_;(with_reducible repeat(first|apply Kd.R_alloc|apply Kd.R_drewN|apply Kd.R_drew));exact h_):Kd.R d e W1 base ok v xs:=k h
theorem cc_ {α:Type} {d:Kd α} {W W1:World} {A:Option Addr} {n:Nat} {xs:List α} (h:Aside0 (Kd.C d W A n xs)) (k:Kd.C d W A n xs→Kd.C d W1 A n xs:=by intro h_;repeat(first|exact h_|(with_reducible refine Kd.C_alloc ?_ _)|(with_reducible refine Kd.C_drewN ?_ _)|(with_reducible refine Kd.C_drew ?_))):Kd.C d W1 A n xs:=k h.out
theorem cb_ {α:Type} {d:Kd α} {W W1:World} {A:Option Addr} {n:Nat} {xs:List α} (h:Aside0 (Kd.C d W A n xs)) (k:Kd.C d W A n xs→Kd.C d W1 A n xs:=by intro h_;repeat(first|exact Kd.C_below h_ HB.out|(with_reducible refine Kd.C_alloc ?_ _)|(with_reducible refine Kd.C_drewN ?_ _)|(with_reducible refine Kd.C_drew ?_))):Kd.C d W1 A n xs:=k h.out
theorem cr_ {α:Type} {d:Kd α} {e base n c:Nat} {W W1:World} {ok:Nat→Prop} {A:Option Addr} {xs:List α} (h:Aside0 (Kd.R d e W base ok (.slice A n c) xs)) (k:Kd.C d W A xs.length xs→Kd.C d W1 A xs.length xs:=by intro h_;repeat(first|exact h_|(with_reducible refine Kd.C_alloc ?_ _)|(with_reducible refine Kd.C_drewN ?_ _)|(with_reducible refine Kd.C_drew ?_))):Kd.C d W1 A xs.length xs:=k (Kd.R_reads' h.out).2.2
theorem pk1 {p0:Prop} (h0:p0):Aside0 p0:=⟨h0⟩
theorem pk2 {p0 p1:Prop} (h0:p0) (h1:p1):Aside0 p0∧Aside0 p1:=⟨⟨h0⟩,⟨h1⟩⟩
theorem pk3 {p0 p1 p2:Prop} (h0:p0) (h1:p1) (h2:p2):Aside0 p0∧Aside0 p1∧Aside0 p2:=⟨⟨h0⟩,⟨h1⟩,⟨h2⟩⟩
theorem pk4 {p0 p1 p2 p3:Prop} (h0:p0) (h1:p1) (h2:p2) (h3:p3):Aside0 p0∧Aside0 p1∧Aside0 p2∧Aside0 p3:=⟨⟨h0⟩,⟨h1⟩,⟨h2⟩,⟨h3⟩⟩
theorem pk5 {p0 p1 p2 p3 p4:Prop} (h0:p0) (h1:p1) (h2:p2) (h3:p3) (h4:p4):Aside0 p0∧Aside0 p1∧Aside0 p2∧Aside0 p3∧Aside0 p4:=⟨⟨h0⟩,⟨h1⟩,⟨h2⟩,⟨h3⟩,⟨h4⟩⟩
theorem pk6 {p0 p1 p2 p3 p4 p5:Prop} (h0:p0) (h1:p1) (h2:p2) (h3:p3) (h4:p4) (h5:p5):Aside0 p0∧Aside0 p1∧Aside0 p2∧Aside0 p3∧Aside0 p4∧Aside0 p5:=⟨⟨h0⟩,⟨h1⟩,⟨h2⟩,⟨h3⟩,⟨h4⟩,⟨h5⟩⟩
theorem pk7 {p0 p1 p2 p3 p4 p5 p6:Prop} (h0:p0) (h1:p1) (h2:p2) (h3:p3) (h4:p4) (h5:p5) (h6:p6):Aside0 p0∧Aside0 p1∧Aside0 p2∧Aside0 p3∧Aside0 p4∧Aside0 p5∧Aside0 p6:=⟨⟨h0⟩,⟨h1⟩,⟨h2⟩,⟨h3⟩,⟨h4⟩,⟨h5⟩,⟨h6⟩⟩
theorem pk8 {p0 p1 p2 p3 p4 p5 p6 p7:Prop} (h0:p0) (h1:p1) (h2:p2) (h3:p3) (h4:p4) (h5:p5) (h6:p6) (h7:p7):Aside0 p0∧Aside0 p1∧Aside0 p2∧Aside0 p3∧Aside0 p4∧Aside0 p5∧Aside0 p6∧Aside0 p7:=⟨⟨h0⟩,⟨h1⟩,⟨h2⟩,⟨h3⟩,⟨h4⟩,⟨h5⟩,⟨h6⟩,⟨h7⟩⟩
theorem pk9 {p0 p1 p2 p3 p4 p5 p6 p7 p8:Prop} (h0:p0) (h1:p1) (h2:p2) (h3:p3) (h4:p4) (h5:p5) (h6:p6) (h7:p7) (h8:p8):Aside0 p0∧Aside0 p1∧Aside0 p2∧Aside0 p3∧Aside0 p4∧Aside0 p5∧Aside0 p6∧Aside0 p7∧Aside0 p8:=⟨⟨h0⟩,⟨h1⟩,⟨h2⟩,⟨h3⟩,⟨h4⟩,⟨h5⟩,⟨h6⟩,⟨h7⟩,⟨h8⟩⟩
theorem pk10 {p0 p1 p2 p3 p4 p5 p6 p7 p8 p9:Prop} (h0:p0) (h1:p1) (h2:p2) (h3:p3) (h4:p4) (h5:p5) (h6:p6) (h7:p7) (h8:p8) (h9:p9):Aside0 p0∧Aside0 p1∧Aside0 p2∧Aside0 p3∧Aside0 p4∧Aside0 p5∧Aside0 p6∧Aside0 p7∧Aside0 p8∧Aside0 p9:=⟨⟨h0⟩,⟨h1⟩,⟨h2⟩,⟨h3⟩,⟨h4⟩,⟨h5⟩,⟨h6⟩,⟨h7⟩,⟨h8⟩,⟨h9⟩⟩
theorem pk11 {p0 p1 p2 p3 p4 p5 p6 p7 p8 p9 p10:Prop} (h0:p0) (h1:p1) (h2:p2) (h3:p3) (h4:p4) (h5:p5) (h6:p6) (h7:p7) (h8:p8) (h9:p9) (h10:p10):Aside0 p0∧Aside0 p1∧Aside0 p2∧Aside0 p3∧Aside0 p4∧Aside0 p5∧Aside0 p6∧Aside0 p7∧Aside0 p8∧Aside0 p9∧Aside0 p10:=⟨⟨h0⟩,⟨h1⟩,⟨h2⟩,⟨h3⟩,⟨h4⟩,⟨h5⟩,⟨h6⟩,⟨h7⟩,⟨h8⟩,⟨h9⟩,⟨h10⟩⟩
section
variable {P : Program} {ops : Array Oper} {rest : List Oper} {o : Oper} {a : Act} {Q : Exit → Act → World → Prop}
theorem box_ev {W:World} (N:Tmp) (cs:Array Value) (t:TypeId)
  (h:∀ g,g=W.heap.size→∀ w1,w1.heap[g]?=some (.cells cs t (0,0))→Below W.heap.size W w1→wpList P ops Q rest (a.put o.dst (.pointer (some ⟨g,0,none⟩))) w1)
  (hgd:o.guard=none:=by rfl) (hd:o.dst=some N:=by rfl) (hrun:(execOp a.eval o).run P W=.ok (.value (.pointer (some ⟨W.heap.size,0,none⟩))) (W.alloc (.cells cs t (0,0))):=by first|(go_simp;done)|(go_simp;rfl)):wpList P ops Q (o::rest) a W :=
 box_event hgd hd hrun h
theorem goL_ {W:World} (N:Option Tmp) {f:FuncId} {fn:Func} {as_:Array Operand} {ts:Array TypeId} (hf:P.funcs[f]?=some fn) (args:Array Value)
  (h:Calls P f args W fun e w'=>∃ v,e=.returned v∧wpList P ops Q rest (a.put N v) w')
  (hd : o.dst = N := by rfl) (hg : o.guard = none := by rfl) (hname : (fn.name == "runtime.NumGoroutine") = false := by kernel_rfl) (hb : fn.body.isSome = true := by rfl)
  (hop:o.op=.call { callee:=.value (.func f),args:=as_,argTypes:=ts }:=by rfl) (hargs:as_.map a.eval=args:=by(try simp only [List.map_toArray,List.map_cons,List.map_nil]);first|done|rfl|(simp only [List.length_drop,List.length_take];rfl)):wpList P ops Q (o::rest) a W :=
 goesL_ N hd hg hf hname hb args hop hargs h
end
end Go.Proofs.YtmddmbagehjdeaaX
end
section
namespace Go.Proofs.Ytmddmbagehjdeaa.G
open Go.RowKit Go.Proofs.YtmddmbagehjdeaaX Go.Proofs.YtmddmbagehjdeaaW.PrintWords Go.Proofs.YtmddmbagehjdeaaW.PrintLast Go.Proofs.YtmddmbagehjdeaaW.PrintMore
attribute [local go_sem] max2_int min2_int max_two min_two max_three min_three max_four min_four
def block_Check.l0:Nat→List (S67)→List (S67)→Int→Int→Option (Int)
 |0,_,_,_,_=>none
 |k+1,x0,x8,x9,x10=>if x10<x9 then(if 0≤x10 then(if x10<(x8.length:Int)then(if((rd_T67 x8 x10).f0)<0 then(some 1)else(if((rd_T67 x8 x10).f0)>1099511627776 then(some 1)else(if((rd_T67 x8 x10).f1)<(-1099511627776)then(some 1)else(if((rd_T67 x8 x10).f1)>1099511627776 then(some 1)else(if x10>0 then(if 0≤(wrap64 (x10 - 1))then(if(wrap64 (x10 - 1))<(x0.length:Int)then(if((rd_T67 x8 x10).f0)≤((rd_T67 x0 (wrap64 (x10 - 1))).f0)then(some 1)else(block_Check.l0 k x0 x8 x9 (wrap64 (x10+1))))else(none))else(none))else(block_Check.l0 k x0 x8 x9 (wrap64 (x10+1))))))))else(none))else(none))else(some 0)
def block_Check.f (k:Nat) (l0:List (S67)):Option (Int):=if(l0.length:Int)>64 then(some 1)else(block_Check.l0 k l0 l0 (l0.length:Int) 0)
theorem block_Check.mono_l:∀ k,(∀ y0 y1 y2 y3,LeO (block_Check.l0 k y0 y1 y2 y3) (block_Check.l0 (k+1) y0 y1 y2 y3))
 |0=>fun _ _ _ _ r h=>by simp [block_Check.l0] at h
 |k+1=>by
  have ih0:=block_Check.mono_l k
  ·intro y0 y1 y2 y3
   unfold block_Check.l0
   repeat' first
   |(with_reducible exact ih0 _ _ _ _)
   |(with_reducible exact LeO.refl _)
   |(with_reducible exact LeO.none _)
   |(with_reducible refine LeO.ite ?_ ?_)
   |(with_reducible refine LeO.bind ?_ (fun _=>?_))
   |exact ih0 _ _ _ _
   |exact LeO.none _
   |refine LeO.ite ?_ ?_
   |refine LeO.bind ?_ (fun _=>?_)
theorem block_Check.mono:∀ a0 k,LeO (block_Check.f k a0) (block_Check.f (k+1) a0):=by
 intro a0 k
 have ih0:=block_Check.mono_l k
 unfold block_Check.f
 repeat' first
   |(with_reducible exact ih0 _ _ _ _)
   |(with_reducible exact LeO.refl _)
   |(with_reducible exact LeO.none _)
   |(with_reducible refine LeO.ite ?_ ?_)
   |(with_reducible refine LeO.bind ?_ (fun _=>?_))
   |exact ih0 _ _ _ _
   |exact LeO.none _
   |refine LeO.ite ?_ ?_
   |refine LeO.bind ?_ (fun _=>?_)
theorem block_Check.calls (k:Nat) (A0:Option Addr) (c0:Nat) (l0:List (S67)) (r:Int) (w:World) (hr0:Kd.C k67 w A0 l0.length l0) (hc0:l0.length≤c0) (h:block_Check.f k l0=some r) :
  Calls Try.prog 75 #[.slice A0 l0.length c0] w fun e w'=>e=.returned (.int .i64 r)∧Below w.heap.size w w':=by
 have hu67:=Try.underlying67
 have HR0:=Aside0.mk hr0
 have HC0:=Aside0.mk hc0
 clear hr0 hc0
 have HB:=Aside0.mk (Below.refl w.heap.size w)
 have H:(if(l0.length:Int)>64 then(some 1)else(block_Check.l0 k l0 l0 (l0.length:Int) 0))=some r:=h
 clear h
 by_cases c2:(l0.length:Int)>64
 rotate_left
 ·rw [if_neg c2] at H
  have c2b0:decide (64<(l0.length:Int))=false:=decide_eq_false c2
  have c2b1:decide (64<l0.length)=false:=decide_eq_false (by omega)
  clear c2
  have H':=Aside0.mk H
  clear H
  go_enter Try.func75,Try.ntmps75
  go_wp2
  repeat(go_quiet (fail);try go_wp2)
  go_loopg [10] k (fun kq v10 w'=>∃ (x10_1:Int),v10=.int .i64 x10_1∧Aside0 (block_Check.l0 kq l0 l0 (l0.length:Int) x10_1=some r)∧Aside0 (kq≤k)∧Aside0 (Below w.heap.size w w'))
  case atStart=>exact⟨(0),sm_,H',⟨Nat.le_refl _⟩,⟨bl_⟩⟩
  case round =>
   clear H'
   try clear c2
   try clear c2b0
   try clear c2b1
   obtain⟨x10_1,rfl,HA,HK1,HB⟩:=hrel
   cases gk with
   |zero=>exact absurd HA.out (by simp [block_Check.l0])
   |succ k1 =>
    have H:=HA.out
    clear HA
    simp only [block_Check.l0] at H
    replace H:=dle H
    rcases H with⟨c3b0,H⟩|⟨c3b0,H⟩
    focus
     replace H:=dle H
     rcases H with⟨c4b0,H⟩|⟨c4b0,H⟩
     rotate_left
     ·exact absurd H (by simp)
     replace H:=dle H
     rcases H with⟨c5b0,H⟩|⟨c5b0,H⟩
     rotate_left
     ·exact absurd H (by simp)
     replace H:=dle H
     rcases H with⟨c6b0,H⟩|⟨c6b0,H⟩
     focus
      obtain rfl:=Option.some.inj H
      have p466:0≤(x10_1:Int):=dc_
      have q466:x10_1<(l0.length:Int):=dc_
      obtain⟨ad466,e466,hx466_0,hx466_1⟩:=at_T67 HR0.out x10_1 p466 q466
      cases e466
      replace hx466_0:=(HB.out.cell (World.block_lt_of_cell? w _ hx466_0)).trans hx466_0
      replace hx466_1:=(HB.out.cell (World.block_lt_of_cell? w _ hx466_1)).trans hx466_1
      replace p466:=eq_true p466
      replace q466:=eq_true q466
     rotate_left
     focus
      replace H:=dgt H
      rcases H with⟨c9b0,H⟩|⟨c9b0,H⟩
      focus
       obtain rfl:=Option.some.inj H
       have p466:0≤(x10_1:Int):=dc_
       have q466:x10_1<(l0.length:Int):=dc_
       obtain⟨ad466,e466,hx466_0,hx466_1⟩:=at_T67 HR0.out x10_1 p466 q466
       cases e466
       replace hx466_0:=(HB.out.cell (World.block_lt_of_cell? w _ hx466_0)).trans hx466_0
       replace hx466_1:=(HB.out.cell (World.block_lt_of_cell? w _ hx466_1)).trans hx466_1
       replace p466:=eq_true p466
       replace q466:=eq_true q466
      rotate_left
      focus
       replace H:=dle H
       rcases H with⟨c12b0,H⟩|⟨c12b0,H⟩
       focus
        obtain rfl:=Option.some.inj H
        have p466:0≤(x10_1:Int):=dc_
        have q466:x10_1<(l0.length:Int):=dc_
        obtain⟨ad466,e466,hx466_0,hx466_1⟩:=at_T67 HR0.out x10_1 p466 q466
        cases e466
        replace hx466_0:=(HB.out.cell (World.block_lt_of_cell? w _ hx466_0)).trans hx466_0
        replace hx466_1:=(HB.out.cell (World.block_lt_of_cell? w _ hx466_1)).trans hx466_1
        replace p466:=eq_true p466
        replace q466:=eq_true q466
       rotate_left
       focus
        replace H:=dgt H
        rcases H with⟨c15b0,H⟩|⟨c15b0,H⟩
        focus
         obtain rfl:=Option.some.inj H
         have p466:0≤(x10_1:Int):=dc_
         have q466:x10_1<(l0.length:Int):=dc_
         obtain⟨ad466,e466,hx466_0,hx466_1⟩:=at_T67 HR0.out x10_1 p466 q466
         cases e466
         replace hx466_0:=(HB.out.cell (World.block_lt_of_cell? w _ hx466_0)).trans hx466_0
         replace hx466_1:=(HB.out.cell (World.block_lt_of_cell? w _ hx466_1)).trans hx466_1
         replace p466:=eq_true p466
         replace q466:=eq_true q466
        rotate_left
        focus
         replace H:=dgt H
         rcases H with⟨c18b0,H⟩|⟨c18b0,H⟩
         focus
          obtain⟨ji19,hji19⟩:∃ j_:Int,(wrap64 (x10_1 - 1))=j_:=⟨_,rfl⟩
          replace H:(if 0≤(ji19)then(if(ji19)<(l0.length:Int)then(if((rd_T67 l0 x10_1).f0)≤((rd_T67 l0 (ji19)).f0)then(some 1)else(block_Check.l0 k1 l0 l0 (l0.length:Int) (wrap64 (x10_1+1))))else(none))else(none))=some r:=by first|(rw [hji19] at H;exact H)|(simp only [hji19] at H ⊢;exact H)
          have hji19w:(IntKind.i64.wrap (x10_1 - 1))=ji19:=(i64_w _).trans hji19
          replace H:=dle H
          rcases H with⟨c20b0,H⟩|⟨c20b0,H⟩
          rotate_left
          ·exact absurd H (by simp)
          replace H:=dle H
          rcases H with⟨c21b0,H⟩|⟨c21b0,H⟩
          rotate_left
          ·exact absurd H (by simp)
          replace H:=dle H
          rcases H with⟨c22b0,H⟩|⟨c22b0,H⟩
          focus
           obtain rfl:=Option.some.inj H
           have p466:0≤(x10_1:Int):=dc_
           have q466:x10_1<(l0.length:Int):=dc_
           obtain⟨ad466,e466,hx466_0,hx466_1⟩:=at_T67 HR0.out x10_1 p466 q466
           cases e466
           replace hx466_0:=(HB.out.cell (World.block_lt_of_cell? w _ hx466_0)).trans hx466_0
           replace hx466_1:=(HB.out.cell (World.block_lt_of_cell? w _ hx466_1)).trans hx466_1
           replace p466:=eq_true p466
           replace q466:=eq_true q466
          rotate_left
          focus
           have H':=Aside0.mk H
           clear H
           have p466:0≤(x10_1:Int):=dc_
           have q466:x10_1<(l0.length:Int):=dc_
           obtain⟨ad466,e466,hx466_0,hx466_1⟩:=at_T67 HR0.out x10_1 p466 q466
           cases e466
           replace hx466_0:=(HB.out.cell (World.block_lt_of_cell? w _ hx466_0)).trans hx466_0
           replace hx466_1:=(HB.out.cell (World.block_lt_of_cell? w _ hx466_1)).trans hx466_1
           replace p466:=eq_true p466
           replace q466:=eq_true q466
         rotate_left 2
         focus
          have H':=Aside0.mk H
          clear H
          have p466:0≤(x10_1:Int):=dc_
          have q466:x10_1<(l0.length:Int):=dc_
          obtain⟨ad466,e466,hx466_0,hx466_1⟩:=at_T67 HR0.out x10_1 p466 q466
          cases e466
          replace hx466_0:=(HB.out.cell (World.block_lt_of_cell? w _ hx466_0)).trans hx466_0
          replace hx466_1:=(HB.out.cell (World.block_lt_of_cell? w _ hx466_1)).trans hx466_1
          replace p466:=eq_true p466
          replace q466:=eq_true q466
    rotate_left 7
    focus
     obtain rfl:=Option.some.inj H
    all_goals
     go_wp2_with (first|((with_reducible refine gate_dst (N:=4) rfl ?_);refine box_ev 4 #[.int .i64 0,.int .i64 0] 67 ?_;intro gb7000 hg w7000 hbox hb;have n_:=pk4 (below_step bl_ hb) (hbox) ((ge_ hg bl_:w.heap.size≤gb7000)) ((ge_ hg bl_:w.heap.size≤gb7000));clear HB;obtain⟨HB,BK7000,GW7000,GE7000⟩:=n_;clear hb hbox hg;have hcz7000_0:w7000.cell? ⟨gb7000,0,none⟩=some (.int .i64 0):=(blk_cell BK7000.out 0).trans rfl;have hcz7000_1:w7000.cell? ⟨gb7000,1,none⟩=some (.int .i64 0):=(blk_cell BK7000.out 1).trans rfl;have hfz7000_0:=blk_frozen BK7000.out 0;have hfz7000_1:=blk_frozen BK7000.out 1;(try(have p7000:0≤((ji19):Int):=dc_;have q7000:(ji19)<(l0.length:Int):=dc_;obtain⟨ad7000,e7000,hx7000_0,hx7000_1⟩:=at_T67 HR0.out (ji19) p7000 q7000;obtain rfl:ad466=ad7000:=(by injection e7000);have hn7000_0:ad466.block≠gb7000:=Nat.ne_of_lt (Nat.lt_of_lt_of_le (by have:=World.block_lt_of_cell? _ _ hx7000_0;first|rwa [add_block] at this|exact this) GW7000.out);have hn7000_1:ad466.block≠gb7000:=Nat.ne_of_lt (Nat.lt_of_lt_of_le (by have:=World.block_lt_of_cell? _ _ hx7000_0;first|rwa [add_block] at this|exact this) GW7000.out);replace hx7000_0:=(HB.out.cell (World.block_lt_of_cell? w _ hx7000_0)).trans hx7000_0;replace hx7000_1:=(HB.out.cell (World.block_lt_of_cell? w _ hx7000_1)).trans hx7000_1;replace hx7000_0:=(cell_far (p:=⟨gb7000,0,none⟩) (by first|(rw [add_block];exact hn7000_0)|(show(Addr.add _ _).block≠_;rw [add_block];exact hn7000_0)|exact hn7000_0) (.int .i64 ((rd_T67 l0 x10_1).f0))).trans hx7000_0;replace hx7000_1:=(cell_far (p:=⟨gb7000,0,none⟩) (by first|(rw [add_block];exact hn7000_0)|(show(Addr.add _ _).block≠_;rw [add_block];exact hn7000_0)|exact hn7000_0) (.int .i64 ((rd_T67 l0 x10_1).f0))).trans hx7000_1;replace hx7000_0:=(cell_far (p:=⟨gb7000,1,none⟩) (by first|(rw [add_block];exact hn7000_1)|(show(Addr.add _ _).block≠_;rw [add_block];exact hn7000_1)|exact hn7000_1) (.int .i64 ((rd_T67 l0 x10_1).f1))).trans hx7000_0;replace hx7000_1:=(cell_far (p:=⟨gb7000,1,none⟩) (by first|(rw [add_block];exact hn7000_1)|(show(Addr.add _ _).block≠_;rw [add_block];exact hn7000_1)|exact hn7000_1) (.int .i64 ((rd_T67 l0 x10_1).f1))).trans hx7000_1;(try have hy7000_0:=fun(n_:Nat)=>(show((((w7000.drewN n_).setCell ⟨gb7000,0,none⟩ (.int .i64 ((rd_T67 l0 x10_1).f0))).setCell ⟨gb7000,1,none⟩ (.int .i64 ((rd_T67 l0 x10_1).f1)))).cell? _=some _ from hx7000_0));(try have hy7000_1:=fun(n_:Nat)=>(show((((w7000.drewN n_).setCell ⟨gb7000,0,none⟩ (.int .i64 ((rd_T67 l0 x10_1).f0))).setCell ⟨gb7000,1,none⟩ (.int .i64 ((rd_T67 l0 x10_1).f1)))).cell? _=some _ from hx7000_1));clear hn7000_0;clear hn7000_1;replace p7000:=eq_true p7000;replace q7000:=eq_true q7000))))
     repeat(go_quiet (first|((with_reducible refine gate_dst (N:=4) rfl ?_);refine box_ev 4 #[.int .i64 0,.int .i64 0] 67 ?_;intro gb7000 hg w7000 hbox hb;have n_:=pk4 (below_step bl_ hb) (hbox) ((ge_ hg bl_:w.heap.size≤gb7000)) ((ge_ hg bl_:w.heap.size≤gb7000));clear HB;obtain⟨HB,BK7000,GW7000,GE7000⟩:=n_;clear hb hbox hg;have hcz7000_0:w7000.cell? ⟨gb7000,0,none⟩=some (.int .i64 0):=(blk_cell BK7000.out 0).trans rfl;have hcz7000_1:w7000.cell? ⟨gb7000,1,none⟩=some (.int .i64 0):=(blk_cell BK7000.out 1).trans rfl;have hfz7000_0:=blk_frozen BK7000.out 0;have hfz7000_1:=blk_frozen BK7000.out 1;(try(have p7000:0≤((ji19):Int):=dc_;have q7000:(ji19)<(l0.length:Int):=dc_;obtain⟨ad7000,e7000,hx7000_0,hx7000_1⟩:=at_T67 HR0.out (ji19) p7000 q7000;obtain rfl:ad466=ad7000:=(by injection e7000);have hn7000_0:ad466.block≠gb7000:=Nat.ne_of_lt (Nat.lt_of_lt_of_le (by have:=World.block_lt_of_cell? _ _ hx7000_0;first|rwa [add_block] at this|exact this) GW7000.out);have hn7000_1:ad466.block≠gb7000:=Nat.ne_of_lt (Nat.lt_of_lt_of_le (by have:=World.block_lt_of_cell? _ _ hx7000_0;first|rwa [add_block] at this|exact this) GW7000.out);replace hx7000_0:=(HB.out.cell (World.block_lt_of_cell? w _ hx7000_0)).trans hx7000_0;replace hx7000_1:=(HB.out.cell (World.block_lt_of_cell? w _ hx7000_1)).trans hx7000_1;replace hx7000_0:=(cell_far (p:=⟨gb7000,0,none⟩) (by first|(rw [add_block];exact hn7000_0)|(show(Addr.add _ _).block≠_;rw [add_block];exact hn7000_0)|exact hn7000_0) (.int .i64 ((rd_T67 l0 x10_1).f0))).trans hx7000_0;replace hx7000_1:=(cell_far (p:=⟨gb7000,0,none⟩) (by first|(rw [add_block];exact hn7000_0)|(show(Addr.add _ _).block≠_;rw [add_block];exact hn7000_0)|exact hn7000_0) (.int .i64 ((rd_T67 l0 x10_1).f0))).trans hx7000_1;replace hx7000_0:=(cell_far (p:=⟨gb7000,1,none⟩) (by first|(rw [add_block];exact hn7000_1)|(show(Addr.add _ _).block≠_;rw [add_block];exact hn7000_1)|exact hn7000_1) (.int .i64 ((rd_T67 l0 x10_1).f1))).trans hx7000_0;replace hx7000_1:=(cell_far (p:=⟨gb7000,1,none⟩) (by first|(rw [add_block];exact hn7000_1)|(show(Addr.add _ _).block≠_;rw [add_block];exact hn7000_1)|exact hn7000_1) (.int .i64 ((rd_T67 l0 x10_1).f1))).trans hx7000_1;(try have hy7000_0:=fun(n_:Nat)=>(show((((w7000.drewN n_).setCell ⟨gb7000,0,none⟩ (.int .i64 ((rd_T67 l0 x10_1).f0))).setCell ⟨gb7000,1,none⟩ (.int .i64 ((rd_T67 l0 x10_1).f1)))).cell? _=some _ from hx7000_0));(try have hy7000_1:=fun(n_:Nat)=>(show((((w7000.drewN n_).setCell ⟨gb7000,0,none⟩ (.int .i64 ((rd_T67 l0 x10_1).f0))).setCell ⟨gb7000,1,none⟩ (.int .i64 ((rd_T67 l0 x10_1).f1)))).cell? _=some _ from hx7000_1));clear hn7000_0;clear hn7000_1;replace p7000:=eq_true p7000;replace q7000:=eq_true q7000))));try go_wp2_with (first|((with_reducible refine gate_dst (N:=4) rfl ?_);refine box_ev 4 #[.int .i64 0,.int .i64 0] 67 ?_;intro gb7000 hg w7000 hbox hb;have n_:=pk4 (below_step bl_ hb) (hbox) ((ge_ hg bl_:w.heap.size≤gb7000)) ((ge_ hg bl_:w.heap.size≤gb7000));clear HB;obtain⟨HB,BK7000,GW7000,GE7000⟩:=n_;clear hb hbox hg;have hcz7000_0:w7000.cell? ⟨gb7000,0,none⟩=some (.int .i64 0):=(blk_cell BK7000.out 0).trans rfl;have hcz7000_1:w7000.cell? ⟨gb7000,1,none⟩=some (.int .i64 0):=(blk_cell BK7000.out 1).trans rfl;have hfz7000_0:=blk_frozen BK7000.out 0;have hfz7000_1:=blk_frozen BK7000.out 1;(try(have p7000:0≤((ji19):Int):=dc_;have q7000:(ji19)<(l0.length:Int):=dc_;obtain⟨ad7000,e7000,hx7000_0,hx7000_1⟩:=at_T67 HR0.out (ji19) p7000 q7000;obtain rfl:ad466=ad7000:=(by injection e7000);have hn7000_0:ad466.block≠gb7000:=Nat.ne_of_lt (Nat.lt_of_lt_of_le (by have:=World.block_lt_of_cell? _ _ hx7000_0;first|rwa [add_block] at this|exact this) GW7000.out);have hn7000_1:ad466.block≠gb7000:=Nat.ne_of_lt (Nat.lt_of_lt_of_le (by have:=World.block_lt_of_cell? _ _ hx7000_0;first|rwa [add_block] at this|exact this) GW7000.out);replace hx7000_0:=(HB.out.cell (World.block_lt_of_cell? w _ hx7000_0)).trans hx7000_0;replace hx7000_1:=(HB.out.cell (World.block_lt_of_cell? w _ hx7000_1)).trans hx7000_1;replace hx7000_0:=(cell_far (p:=⟨gb7000,0,none⟩) (by first|(rw [add_block];exact hn7000_0)|(show(Addr.add _ _).block≠_;rw [add_block];exact hn7000_0)|exact hn7000_0) (.int .i64 ((rd_T67 l0 x10_1).f0))).trans hx7000_0;replace hx7000_1:=(cell_far (p:=⟨gb7000,0,none⟩) (by first|(rw [add_block];exact hn7000_0)|(show(Addr.add _ _).block≠_;rw [add_block];exact hn7000_0)|exact hn7000_0) (.int .i64 ((rd_T67 l0 x10_1).f0))).trans hx7000_1;replace hx7000_0:=(cell_far (p:=⟨gb7000,1,none⟩) (by first|(rw [add_block];exact hn7000_1)|(show(Addr.add _ _).block≠_;rw [add_block];exact hn7000_1)|exact hn7000_1) (.int .i64 ((rd_T67 l0 x10_1).f1))).trans hx7000_0;replace hx7000_1:=(cell_far (p:=⟨gb7000,1,none⟩) (by first|(rw [add_block];exact hn7000_1)|(show(Addr.add _ _).block≠_;rw [add_block];exact hn7000_1)|exact hn7000_1) (.int .i64 ((rd_T67 l0 x10_1).f1))).trans hx7000_1;(try have hy7000_0:=fun(n_:Nat)=>(show((((w7000.drewN n_).setCell ⟨gb7000,0,none⟩ (.int .i64 ((rd_T67 l0 x10_1).f0))).setCell ⟨gb7000,1,none⟩ (.int .i64 ((rd_T67 l0 x10_1).f1)))).cell? _=some _ from hx7000_0));(try have hy7000_1:=fun(n_:Nat)=>(show((((w7000.drewN n_).setCell ⟨gb7000,0,none⟩ (.int .i64 ((rd_T67 l0 x10_1).f0))).setCell ⟨gb7000,1,none⟩ (.int .i64 ((rd_T67 l0 x10_1).f1)))).cell? _=some _ from hx7000_1));clear hn7000_0;clear hn7000_1;replace p7000:=eq_true p7000;replace q7000:=eq_true q7000)))))
     first
      |go_ret
       first
        |exact⟨rf_,bl_⟩
        |exact⟨by first|rfl|(simp [errW_none,errW_some]<;>rfl)|(simp only [←hji19];first|rfl|(simp [errW_none,errW_some]<;>rfl))|(simp [*,errW_none,errW_some]<;>rfl),bl_⟩
      |go_roundg k1
       case measure=>have:=HK1.out;omega
       case rel=>exact⟨(wrap64 (x10_1+1)),sm_,H',⟨by have:=HK1.out;omega⟩,⟨bl_⟩⟩
 rw [if_pos c2] at H
 have c2b0:decide (64<(l0.length:Int))=true:=decide_eq_true c2
 have c2b1:decide (64<l0.length)=true:=decide_eq_true (by omega)
 clear c2
 obtain rfl:=Option.some.inj H
 go_enter Try.func75,Try.ntmps75
 go_wp2
 repeat(go_quiet (fail);try go_wp2)
 go_ret
 exact⟨rf_,bl_⟩
end Go.Proofs.Ytmddmbagehjdeaa.G
end
section
namespace Go.Proofs.Ytmddmbagehjdeaa.G
open Go.RowKit Go.Proofs.YtmddmbagehjdeaaX Go.Proofs.YtmddmbagehjdeaaW.PrintWords Go.Proofs.YtmddmbagehjdeaaW.PrintLast Go.Proofs.YtmddmbagehjdeaaW.PrintMore
attribute [local go_sem] max2_int min2_int max_two min_two max_three min_three max_four min_four
def block_Pack.l0:Nat→List (S67)→Int→Int→List Int→Int→Int→Int→Int→Option (List Int×List ByteArray×Int)
 |0,_,_,_,_,_,_,_,_=>none
 |k+1,x21,x22,x23,x475000,x476000,x476001,x477000,x477001=>if x23<x22 then(if 0≤x23 then(if x23<(x21.length:Int)then((some (([wrap64 ((wrap64 (((rd_T67 x21 x23).f0) - x476000)) - x477000),wrap64 ((wrap64 (((rd_T67 x21 x23).f1) - x476001)) - x477001)]:List Int):List Int)).bind fun y480=>(if x475000.length+y480.length<17592186044416 then((some (x475000++y480:List Int)).bind fun y483=>(if x23>0 then(block_Pack.l0 k x21 x22 (wrap64 (x23+1)) y483 ((rd_T67 x21 x23).f0) ((rd_T67 x21 x23).f1) (wrap64 (((rd_T67 x21 x23).f0) - x476000)) (wrap64 (((rd_T67 x21 x23).f1) - x476001)))else(block_Pack.l0 k x21 x22 (wrap64 (x23+1)) y483 ((rd_T67 x21 x23).f0) ((rd_T67 x21 x23).f1) x477000 x477001)))else(none)))else(none))else(none))else(some (x475000,([]:List ByteArray),0))
def block_Pack.f (k:Nat) (l0:List (S67)):Option (List Int×List ByteArray×Int):=(block_Check.f k l0).bind fun t470=>(if t470=0 then(block_Pack.l0 k l0 (l0.length:Int) 0 (([(l0.length:Int)]:List Int)) 0 0 0 0)else(some (([]:List Int),([]:List ByteArray),t470)))
theorem block_Pack.mono_l:∀ k,(∀ y0 y1 y2 y3 y4 y5 y6 y7,LeO (block_Pack.l0 k y0 y1 y2 y3 y4 y5 y6 y7) (block_Pack.l0 (k+1) y0 y1 y2 y3 y4 y5 y6 y7))
 |0=>fun _ _ _ _ _ _ _ _ r h=>by simp [block_Pack.l0] at h
 |k+1=>by
  have ih0:=block_Pack.mono_l k
  ·intro y0 y1 y2 y3 y4 y5 y6 y7
   unfold block_Pack.l0
   repeat' first
   |(with_reducible exact ih0 _ _ _ _ _ _ _ _)
   |(with_reducible exact block_Check.mono _ _)
   |(with_reducible exact LeO.refl _)
   |(with_reducible exact LeO.none _)
   |(with_reducible refine LeO.ite ?_ ?_)
   |(with_reducible refine LeO.bind ?_ (fun _=>?_))
   |exact ih0 _ _ _ _ _ _ _ _
   |exact block_Check.mono _ _
   |exact LeO.none _
   |refine LeO.ite ?_ ?_
   |refine LeO.bind ?_ (fun _=>?_)
theorem block_Pack.mono:∀ a0 k,LeO (block_Pack.f k a0) (block_Pack.f (k+1) a0):=by
 intro a0 k
 have ih0:=block_Pack.mono_l k
 unfold block_Pack.f
 repeat' first
   |(with_reducible exact ih0 _ _ _ _ _ _ _ _)
   |(with_reducible exact block_Check.mono _ _)
   |(with_reducible exact LeO.refl _)
   |(with_reducible exact LeO.none _)
   |(with_reducible refine LeO.ite ?_ ?_)
   |(with_reducible refine LeO.bind ?_ (fun _=>?_))
   |exact ih0 _ _ _ _ _ _ _ _
   |exact block_Check.mono _ _
   |exact LeO.none _
   |refine LeO.ite ?_ ?_
   |refine LeO.bind ?_ (fun _=>?_)
theorem block_Pack.calls (k:Nat) (A0:Option Addr) (c0:Nat) (l0:List (S67)) (r1:List Int) (r2:List ByteArray) (r3:Int) (w:World) (hr0:Kd.C k67 w A0 l0.length l0) (hc0:l0.length≤c0) (h:block_Pack.f k l0=some (r1,r2,r3)) :
  Calls Try.prog 70 #[.slice A0 l0.length c0] w fun e w'=>∃ v0_ v1_:Value,e=.returned (.tuple #[.agg #[v0_,v1_],.int .i64 r3])∧Kd.R (Kd.int .i64) 3 w' w.heap.size (fun _=>True) v0_ r1∧Kd.R Kd.string 9 w' w.heap.size (fun _=>True) v1_ r2∧Below w.heap.size w w':=by
 have hu98:=Try.underlying98
 have hu67:=Try.underlying67
 have HR0:=Aside0.mk hr0
 have HC0:=Aside0.mk hc0
 clear hr0 hc0
 have HB:=Aside0.mk (Below.refl w.heap.size w)
 have H:((block_Check.f k l0).bind fun t470=>(if t470=0 then(block_Pack.l0 k l0 (l0.length:Int) 0 (([(l0.length:Int)]:List Int)) 0 0 0 0)else(some (([]:List Int),([]:List ByteArray),t470))))=some (r1,r2,r3):=h
 clear h
 replace H:=bindA H
 obtain⟨t470,A2,H⟩:=H
 try dsimp only at H
 replace H:=deqn H
 rcases H with⟨c3b0,c3b1,H⟩|⟨c3b0,c3b1,c3,H⟩
 ·obtain⟨y471,hy471⟩:∃ y_:List Int,y_=(([(l0.length:Int)]:List Int)):=⟨_,rfl⟩
  replace H:(block_Pack.l0 k l0 (l0.length:Int) 0 y471 0 0 0 0)=some (r1,r2,r3):=by first|(rw [hy471];with_reducible exact H)|(have H2_:=(Option.bind_some _ _).symm.trans H;rw [hy471];with_reducible exact H2_)|(have H2_:=(Option.bind_some _ _).symm.trans H;with_reducible exact H2_)|with_reducible exact H|(rw [hy471];exact H)|exact H
  have Ny471:=Aside0.mk hy471
  clear hy471
  have H':=Aside0.mk H
  clear H
  go_enter Try.func70,Try.ntmps70
  go_wp2_with (first|((with_reducible refine gate_dst (N:=2) rfl ?_);refine box_ev 2 #[.slice none 0 0,.slice none 0 0] 98 ?_;intro gb469 hg w4 hbox hb;have n_:=pk4 (below_step bl_ hb) (hbox) ((ge_ hg bl_:w.heap.size≤gb469)) ((ge_ hg bl_:w.heap.size≤gb469));clear HB;obtain⟨HB,BK469,GW469,GE469⟩:=n_;clear hb hbox hg)|((with_reducible refine gate_callee (f:=75) rfl ?_);refine goL_ (some 12) Try.func75 #[.slice A0 l0.length c0] ?_;(with_reducible refine(block_Check.calls k _ _ l0 t470 _ ?side1 ?side2 A2.out).mono ?_);(case side1=>exact cb_ HR0);(case side2=>exact HC0.out);rintro e w5 ⟨rfl,hb⟩;refine⟨_,rfl,?_⟩;have n_:=pk2 (blk_below (bo_ BK469) hb) (below_step bl_ hb);clear BK469 HB;obtain⟨BK469,HB⟩:=n_;(try clear hb))|((with_reducible refine gate_dst (N:=19) rfl ?_);refine Kd.R_lit (Kd.int .i64) _ 3 ?hg (N:=19) ?hd (xs:=([(l0.length:Int)]:List Int)) (inner:=[.int .i64 (l0.length:Int)]) (ok:=fun _=>True) (okp:=fun _=>True) ?hr ?hp (fun _ hk=>hk) trivial (Below.refl _ _) (Nat.le_refl _) (by simp) ?_;(case hd=>rfl);(case hg=>rfl);(case hr=>first|(go_simp;done)|(go_simp;rfl));(case hp=>exact(Reps.one (show Kd.M (Kd.int .i64) _ _ _ (l0.length:Int) [.int .i64 (l0.length:Int)] from rfl) (Reps.none _ _)));intro v472 w6 ho7 hb hg_ hnew_;clear hg_ hnew_;(first|rw [←Ny471.out] at ho7|(simp only [Int.reduceToNat] at ho7;rw [←Ny471.out] at ho7));have n_:=pk3 (Kd.R_lower ho7 (below_size bl_)) (blk_below (bo_ BK469) hb) (below_step bl_ hb);clear BK469 HB;obtain⟨HO473,BK469,HB⟩:=n_;clear hb ho7;obtain⟨Ao8,co8,eo8⟩:=Kd.R_slice HO473.out;subst eo8)|((with_reducible refine gate_dst (N:=5) rfl ?_);refine box_ev 5 #[.slice none 0 0,.slice none 0 0] 98 ?_;intro gb474 hg w9 hbox hb;have n_:=pk8 (Kd.R_below (ro_ HO473) hb) (blk_below (bo_ BK469) hb) (below_step bl_ hb) (hbox) ((ge_ hg bl_:w.heap.size≤gb474)) ((ge_ hg bl_:w.heap.size≤gb474)) ((nb_ hg (bo_ BK469):gb469≠gb474)) ((nc_ hg (bo_ BK469):gb474≠gb469));clear HO473 BK469 HB;obtain⟨HO473,BK469,HB,BK474,GW474,GE474,NB469_474,NB474_469⟩:=n_;clear hb hbox hg;have hnb10:=NB474_469.out;have hnc10:=NB469_474.out;have hcz11_0:w9.cell? ⟨gb474,0,none⟩=some (.slice none 0 0):=(blk_cell BK474.out 0).trans rfl;have hcz11_1:w9.cell? ⟨gb474,1,none⟩=some (.slice none 0 0):=(blk_cell BK474.out 1).trans rfl;have hfz11_0:=blk_frozen BK474.out 0;have hfz11_1:=blk_frozen BK474.out 1)|((with_reducible refine gate_dst (N:=6) rfl ?_);refine box_ev 6 #[.int .i64 0,.int .i64 0] 67 ?_;intro gb475 hg w12 hbox hb;have n_:=pk11 (Kd.R_below (rt_ ((Kd.R_mono (Kd.R_far (p:=⟨gb474,1,none⟩) (Kd.R_far (p:=⟨gb474,0,none⟩) (Kd.R_types HO473.out BK474.out (by decide)) (fun _ hk=>hk.2) (.slice Ao8 y471.length co8)) (fun _ hk=>hk.2) (.slice none 0 0)) (fun _ h_=>h_.1)))) hb) (blk_below (g:=gb469) (o:=.cells #[.slice none 0 0,.slice none 0 0] 98 (0,0)) (by(with_reducible repeat(first|refine blk_drewN ?_ _|refine blk_drew ?_|refine blk_alloc ?_ _));refine blk_far ?_ NB469_474.out _;(with_reducible repeat(first|refine blk_drewN ?_ _|refine blk_drew ?_|refine blk_alloc ?_ _));refine blk_far ?_ NB469_474.out _;exact(bo_ BK469)) hb) (blk_below (g:=gb474) (o:=.cells #[.slice Ao8 y471.length co8,.slice none 0 0] 98 (0,0)) (by(with_reducible repeat(first|refine blk_drewN ?_ _|refine blk_drew ?_|refine blk_alloc ?_ _));refine blk_put (cs:=#[.slice Ao8 y471.length co8,.slice none 0 0]) ?_ 1 _ rfl;(with_reducible repeat(first|refine blk_drewN ?_ _|refine blk_drew ?_|refine blk_alloc ?_ _));refine blk_put (cs:=#[.slice none 0 0,.slice none 0 0]) ?_ 0 _ rfl;exact(bo_ BK474)) hb) (below_step bl_ hb) (hbox) ((ge_ hg bl_:w.heap.size≤gb475)) ((ge_ hg bl_:w.heap.size≤gb475)) ((by rw [hg];exact Nat.ne_of_lt (blk_lt (g:=gb469) (o:=.cells #[.slice none 0 0,.slice none 0 0] 98 (0,0)) (by(with_reducible repeat(first|refine blk_drewN ?_ _|refine blk_drew ?_|refine blk_alloc ?_ _));refine blk_far ?_ NB469_474.out _;(with_reducible repeat(first|refine blk_drewN ?_ _|refine blk_drew ?_|refine blk_alloc ?_ _));refine blk_far ?_ NB469_474.out _;exact(bo_ BK469))):gb469≠gb475)) ((by rw [hg];exact Nat.ne_of_gt (blk_lt (g:=gb469) (o:=.cells #[.slice none 0 0,.slice none 0 0] 98 (0,0)) (by(with_reducible repeat(first|refine blk_drewN ?_ _|refine blk_drew ?_|refine blk_alloc ?_ _));refine blk_far ?_ NB469_474.out _;(with_reducible repeat(first|refine blk_drewN ?_ _|refine blk_drew ?_|refine blk_alloc ?_ _));refine blk_far ?_ NB469_474.out _;exact(bo_ BK469))):gb475≠gb469)) ((by rw [hg];exact Nat.ne_of_lt (blk_lt (g:=gb474) (o:=.cells #[.slice Ao8 y471.length co8,.slice none 0 0] 98 (0,0)) (by(with_reducible repeat(first|refine blk_drewN ?_ _|refine blk_drew ?_|refine blk_alloc ?_ _));refine blk_put (cs:=#[.slice Ao8 y471.length co8,.slice none 0 0]) ?_ 1 _ rfl;(with_reducible repeat(first|refine blk_drewN ?_ _|refine blk_drew ?_|refine blk_alloc ?_ _));refine blk_put (cs:=#[.slice none 0 0,.slice none 0 0]) ?_ 0 _ rfl;exact(bo_ BK474))):gb474≠gb475)) ((by rw [hg];exact Nat.ne_of_gt (blk_lt (g:=gb474) (o:=.cells #[.slice Ao8 y471.length co8,.slice none 0 0] 98 (0,0)) (by(with_reducible repeat(first|refine blk_drewN ?_ _|refine blk_drew ?_|refine blk_alloc ?_ _));refine blk_put (cs:=#[.slice Ao8 y471.length co8,.slice none 0 0]) ?_ 1 _ rfl;(with_reducible repeat(first|refine blk_drewN ?_ _|refine blk_drew ?_|refine blk_alloc ?_ _));refine blk_put (cs:=#[.slice none 0 0,.slice none 0 0]) ?_ 0 _ rfl;exact(bo_ BK474))):gb475≠gb474));clear HO473 BK469 BK474 HB;obtain⟨HO473,BK469,BK474,HB,BK475,GW475,GE475,NB469_475,NB475_469,NB474_475,NB475_474⟩:=n_;clear hb hbox hg)|((with_reducible refine gate_dst (N:=7) rfl ?_);refine box_ev 7 #[.int .i64 0,.int .i64 0] 67 ?_;intro gb476 hg w13 hbox hb;have n0_:=Aside0.mk (Kd.R_below (ro_ HO473) hb);have n1_:=Aside0.mk (blk_below (bo_ BK469) hb);have n2_:=Aside0.mk (blk_below (bo_ BK474) hb);have n3_:=Aside0.mk (blk_below (bo_ BK475) hb);have n4_:=Aside0.mk (below_step bl_ hb);have n5_:=Aside0.mk (hbox);have n6_:=Aside0.mk ((ge_ hg bl_:w.heap.size≤gb476));have n7_:=Aside0.mk ((ge_ hg bl_:w.heap.size≤gb476));have n8_:=Aside0.mk ((nb_ hg (bo_ BK469):gb469≠gb476));have n9_:=Aside0.mk ((nc_ hg (bo_ BK469):gb476≠gb469));have n10_:=Aside0.mk ((nb_ hg (bo_ BK474):gb474≠gb476));have n11_:=Aside0.mk ((nc_ hg (bo_ BK474):gb476≠gb474));have n12_:=Aside0.mk ((nb_ hg (bo_ BK475):gb475≠gb476));have n13_:=Aside0.mk ((nc_ hg (bo_ BK475):gb476≠gb475));clear HO473;clear BK469;clear BK474;clear BK475;clear HB;have HO473:=n0_;have BK469:=n1_;have BK474:=n2_;have BK475:=n3_;have HB:=n4_;have BK476:=n5_;have GW476:=n6_;have GE476:=n7_;have NB469_476:=n8_;have NB476_469:=n9_;have NB474_476:=n10_;have NB476_474:=n11_;have NB475_476:=n12_;have NB476_475:=n13_;clear n0_ n1_ n2_ n3_ n4_ n5_ n6_ n7_ n8_ n9_ n10_ n11_ n12_ n13_;clear hb hbox hg))
  go_loopg [23] k (fun kq v23 w'=>∃ (x23_1:Int) (x475000_1:List Int) (x476000_1:Int) (x476001_1:Int) (x477000_1:Int) (x477001_1:Int) (u475000:Value),v23=.int .i64 x23_1∧Aside0 (block_Pack.l0 kq l0 (l0.length:Int) x23_1 x475000_1 x476000_1 x476001_1 x477000_1 x477001_1=some (r1,r2,r3))∧Aside0 (kq≤k)∧Aside0 (Kd.R (Kd.int .i64) 3 w' w.heap.size (fun _=>True) u475000 x475000_1)∧Aside0 (w'.heap[gb469]?=some (.cells #[(.slice none 0 0),(.slice none 0 0)] 98 (0,0)))∧Aside0 (w'.heap[gb474]?=some (.cells #[u475000,(.slice none 0 0)] 98 (0,0)))∧Aside0 (w'.heap[gb475]?=some (.cells #[.int .i64 x476000_1,.int .i64 x476001_1] 67 (0,0)))∧Aside0 (w'.heap[gb476]?=some (.cells #[.int .i64 x477000_1,.int .i64 x477001_1] 67 (0,0)))∧Aside0 (Below w.heap.size w w'))
  case atStart=>exact⟨(0),(y471),(0),(0),(0),(0),(.slice Ao8 y471.length co8),sm_,H',⟨Nat.le_refl _⟩,⟨(ro_ HO473)⟩,⟨(bo_ BK469)⟩,⟨(bo_ BK474)⟩,⟨(bo_ BK475)⟩,⟨(bo_ BK476)⟩,⟨bl_⟩⟩
  case round =>
   clear H'
   try clear c3
   try clear c3b0
   try clear c3b1
   obtain⟨x23_1,x475000_1,x476000_1,x476001_1,x477000_1,x477001_1,u475000,rfl,HA,HK1,HO_475000,BK469,BK474,BK475,BK476,HB⟩:=hrel
   cases gk with
   |zero=>exact absurd HA.out (by simp [block_Pack.l0])
   |succ k1 =>
    have H:=HA.out
    clear HA
    simp only [block_Pack.l0] at H
    replace H:=dle H
    rcases H with⟨c14b0,H⟩|⟨c14b0,H⟩
    focus
     replace H:=dle H
     rcases H with⟨c15b0,H⟩|⟨c15b0,H⟩
     rotate_left
     ·exact absurd H (by simp)
     replace H:=dle H
     rcases H with⟨c16b0,H⟩|⟨c16b0,H⟩
     rotate_left
     ·exact absurd H (by simp)
     obtain⟨y480,hy480⟩:∃ y_:List Int,y_=(([wrap64 ((wrap64 (((rd_T67 l0 x23_1).f0) - x476000_1)) - x477000_1),wrap64 ((wrap64 (((rd_T67 l0 x23_1).f1) - x476001_1)) - x477001_1)]:List Int)):=⟨_,rfl⟩
     replace H:(if x475000_1.length+y480.length<17592186044416 then((some (x475000_1++y480:List Int)).bind fun y483=>(if x23_1>0 then(block_Pack.l0 k1 l0 (l0.length:Int) (wrap64 (x23_1+1)) y483 ((rd_T67 l0 x23_1).f0) ((rd_T67 l0 x23_1).f1) (wrap64 (((rd_T67 l0 x23_1).f0) - x476000_1)) (wrap64 (((rd_T67 l0 x23_1).f1) - x476001_1)))else(block_Pack.l0 k1 l0 (l0.length:Int) (wrap64 (x23_1+1)) y483 ((rd_T67 l0 x23_1).f0) ((rd_T67 l0 x23_1).f1) x477000_1 x477001_1)))else(none))=some (r1,r2,r3):=by first|(rw [hy480];with_reducible exact H)|(have H2_:=(Option.bind_some _ _).symm.trans H;rw [hy480];with_reducible exact H2_)|(have H2_:=(Option.bind_some _ _).symm.trans H;with_reducible exact H2_)|with_reducible exact H|(rw [hy480];exact H)|exact H
     have Ny480:=Aside0.mk hy480
     clear hy480
     by_cases c17:x475000_1.length+y480.length<17592186044416
     rotate_left
     ·rw [if_neg c17] at H
      exact absurd H (by simp)
     rw [if_pos c17] at H
     have LMc17:=Aside0.mk c17
     clear c17
     obtain⟨y483,hy483⟩:∃ y_:List Int,y_=(x475000_1++y480):=⟨_,rfl⟩
     replace H:(if x23_1>0 then(block_Pack.l0 k1 l0 (l0.length:Int) (wrap64 (x23_1+1)) y483 ((rd_T67 l0 x23_1).f0) ((rd_T67 l0 x23_1).f1) (wrap64 (((rd_T67 l0 x23_1).f0) - x476000_1)) (wrap64 (((rd_T67 l0 x23_1).f1) - x476001_1)))else(block_Pack.l0 k1 l0 (l0.length:Int) (wrap64 (x23_1+1)) y483 ((rd_T67 l0 x23_1).f0) ((rd_T67 l0 x23_1).f1) x477000_1 x477001_1))=some (r1,r2,r3):=by first|(rw [hy483];with_reducible exact H)|(have H2_:=(Option.bind_some _ _).symm.trans H;rw [hy483];with_reducible exact H2_)|(have H2_:=(Option.bind_some _ _).symm.trans H;with_reducible exact H2_)|with_reducible exact H|(rw [hy483];exact H)|exact H
     have Ny483:=Aside0.mk hy483
     clear hy483
     replace H:=dgt H
     rcases H with⟨c18b0,H⟩|⟨c18b0,H⟩
     focus
      have H':=Aside0.mk H
      clear H
      have p477:0≤(x23_1:Int):=dc_
      have q477:x23_1<(l0.length:Int):=dc_
      obtain⟨ad477,e477,hx477_0,hx477_1⟩:=at_T67 HR0.out x23_1 p477 q477
      cases e477
      replace hx477_0:=(HB.out.cell (World.block_lt_of_cell? w _ hx477_0)).trans hx477_0
      replace hx477_1:=(HB.out.cell (World.block_lt_of_cell? w _ hx477_1)).trans hx477_1
      replace p477:=eq_true p477
      replace q477:=eq_true q477
     rotate_left
     focus
      have H':=Aside0.mk H
      clear H
      have p477:0≤(x23_1:Int):=dc_
      have q477:x23_1<(l0.length:Int):=dc_
      obtain⟨ad477,e477,hx477_0,hx477_1⟩:=at_T67 HR0.out x23_1 p477 q477
      cases e477
      replace hx477_0:=(HB.out.cell (World.block_lt_of_cell? w _ hx477_0)).trans hx477_0
      replace hx477_1:=(HB.out.cell (World.block_lt_of_cell? w _ hx477_1)).trans hx477_1
      replace p477:=eq_true p477
      replace q477:=eq_true q477
    rotate_left 2
    focus
     simp only [Option.some.injEq,Prod.mk.injEq] at H
     obtain⟨rfl,rfl,rfl⟩:=H
     have hnb81:=NB474_469.out
     have hnc81:=NB469_474.out
     have hnb82:=NB474_475.out
     have hnc82:=NB475_474.out
     have hnb83:=NB474_476.out
     have hnc83:=NB476_474.out
     obtain⟨hcz84_0,hcz84_1,hfz84_0,hfz84_1⟩:=blk_at2 BK474.out
     obtain⟨Ao85,co85,eo85⟩:=Kd.R_slice HO_475000.out
     subst eo85
     have hnb86:=NB469_475.out
     have hnc86:=NB475_469.out
     have hnb87:=NB469_476.out
     have hnc87:=NB476_469.out
     obtain⟨hcz88_0,hcz88_1,hfz88_0,hfz88_1⟩:=blk_at2 BK469.out
    all_goals
     go_wp2_with (first|((with_reducible refine gate_dst (N:=9) rfl ?_);refine box_ev 9 #[.int .i64 0,.int .i64 0] 67 ?_;intro gb7000 hg w7000 hbox hb;have n0_:=Aside0.mk (Kd.R_below (ro_ HO_475000) hb);have n1_:=Aside0.mk (blk_below (bo_ BK469) hb);have n2_:=Aside0.mk (blk_below (bo_ BK474) hb);have n3_:=Aside0.mk (blk_below (bo_ BK475) hb);have n4_:=Aside0.mk (blk_below (bo_ BK476) hb);have n5_:=Aside0.mk (below_step bl_ hb);have n6_:=Aside0.mk (hbox);have n7_:=Aside0.mk ((ge_ hg bl_:w.heap.size≤gb7000));have n8_:=Aside0.mk ((ge_ hg bl_:w.heap.size≤gb7000));have n9_:=Aside0.mk ((nb_ hg (bo_ BK469):gb469≠gb7000));have n10_:=Aside0.mk ((nc_ hg (bo_ BK469):gb7000≠gb469));have n11_:=Aside0.mk ((nb_ hg (bo_ BK474):gb474≠gb7000));have n12_:=Aside0.mk ((nc_ hg (bo_ BK474):gb7000≠gb474));have n13_:=Aside0.mk ((nb_ hg (bo_ BK475):gb475≠gb7000));have n7000_:=Aside0.mk ((nc_ hg (bo_ BK475):gb7000≠gb475));have n7001_:=Aside0.mk ((nb_ hg (bo_ BK476):gb476≠gb7000));have n7002_:=Aside0.mk ((nc_ hg (bo_ BK476):gb7000≠gb476));clear HO_475000;clear BK469;clear BK474;clear BK475;clear BK476;clear HB;have HO_475000:=n0_;have BK469:=n1_;have BK474:=n2_;have BK475:=n3_;have BK476:=n4_;have HB:=n5_;have BK7000:=n6_;have GW7000:=n7_;have GE7000:=n8_;have NB469_7000:=n9_;have NB7000_469:=n10_;have NB474_7000:=n11_;have NB7000_474:=n12_;have NB475_7000:=n13_;have NB7000_475:=n7000_;have NB476_7000:=n7001_;have NB7000_476:=n7002_;clear n0_ n1_ n2_ n3_ n4_ n5_ n6_ n7_ n8_ n9_ n10_ n11_ n12_ n13_ n7000_ n7001_ n7002_;clear hb hbox hg;have hnb7000:=NB7000_469.out;have hnc7000:=NB469_7000.out;have hnb7001:=NB7000_474.out;have hnc7001:=NB474_7000.out;have hnb7002:=NB7000_475.out;have hnc7002:=NB475_7000.out;have hnb7003:=NB7000_476.out;have hnc7003:=NB476_7000.out;have hcz7000_0:w7000.cell? ⟨gb7000,0,none⟩=some (.int .i64 0):=(blk_cell BK7000.out 0).trans rfl;have hcz7000_1:w7000.cell? ⟨gb7000,1,none⟩=some (.int .i64 0):=(blk_cell BK7000.out 1).trans rfl;have hfz7000_0:=blk_frozen BK7000.out 0;have hfz7000_1:=blk_frozen BK7000.out 1;have hnb7004:=NB475_469.out;have hnc7004:=NB469_475.out;have hnb7005:=NB475_474.out;have hnc7005:=NB474_475.out;have hnb7006:=NB475_476.out;have hnc7006:=NB476_475.out;have hcz7001_0:w7000.cell? ⟨gb475,0,none⟩=some (.int .i64 x476000_1):=(blk_cell BK475.out 0).trans rfl;have hcz7001_1:w7000.cell? ⟨gb475,1,none⟩=some (.int .i64 x476001_1):=(blk_cell BK475.out 1).trans rfl;have hfz7001_0:=blk_frozen BK475.out 0;have hfz7001_1:=blk_frozen BK475.out 1)|((with_reducible refine gate_dst (N:=10) rfl ?_);refine box_ev 10 #[.int .i64 0,.int .i64 0] 67 ?_;intro gb7001 hg w7001 hbox hb;have n0_:=Aside0.mk (Kd.R_below (rt_ ((Kd.R_mono (Kd.R_far (p:=⟨gb7000,1,none⟩) (Kd.R_far (p:=⟨gb7000,0,none⟩) (Kd.R_types HO_475000.out BK7000.out (by decide)) (fun _ hk=>hk.2) (.int .i64 ((rd_T67 l0 x23_1).f0))) (fun _ hk=>hk.2) (.int .i64 ((rd_T67 l0 x23_1).f1))) (fun _ h_=>h_.1)))) hb);have n1_:=Aside0.mk (blk_below (g:=gb469) (o:=.cells #[.slice none 0 0,.slice none 0 0] 98 (0,0)) (by(with_reducible repeat(first|refine blk_drewN ?_ _|refine blk_drew ?_|refine blk_alloc ?_ _));refine blk_far ?_ NB469_7000.out _;(with_reducible repeat(first|refine blk_drewN ?_ _|refine blk_drew ?_|refine blk_alloc ?_ _));refine blk_far ?_ NB469_7000.out _;exact(bo_ BK469)) hb);have n2_:=Aside0.mk (blk_below (g:=gb474) (o:=.cells #[u475000,.slice none 0 0] 98 (0,0)) (by(with_reducible repeat(first|refine blk_drewN ?_ _|refine blk_drew ?_|refine blk_alloc ?_ _));refine blk_far ?_ NB474_7000.out _;(with_reducible repeat(first|refine blk_drewN ?_ _|refine blk_drew ?_|refine blk_alloc ?_ _));refine blk_far ?_ NB474_7000.out _;exact(bo_ BK474)) hb);have n3_:=Aside0.mk (blk_below (g:=gb475) (o:=.cells #[.int .i64 x476000_1,.int .i64 x476001_1] 67 (0,0)) (by(with_reducible repeat(first|refine blk_drewN ?_ _|refine blk_drew ?_|refine blk_alloc ?_ _));refine blk_far ?_ NB475_7000.out _;(with_reducible repeat(first|refine blk_drewN ?_ _|refine blk_drew ?_|refine blk_alloc ?_ _));refine blk_far ?_ NB475_7000.out _;exact(bo_ BK475)) hb);have n4_:=Aside0.mk (blk_below (g:=gb476) (o:=.cells #[.int .i64 x477000_1,.int .i64 x477001_1] 67 (0,0)) (by(with_reducible repeat(first|refine blk_drewN ?_ _|refine blk_drew ?_|refine blk_alloc ?_ _));refine blk_far ?_ NB476_7000.out _;(with_reducible repeat(first|refine blk_drewN ?_ _|refine blk_drew ?_|refine blk_alloc ?_ _));refine blk_far ?_ NB476_7000.out _;exact(bo_ BK476)) hb);have n5_:=Aside0.mk (blk_below (g:=gb7000) (o:=.cells #[.int .i64 ((rd_T67 l0 x23_1).f0),.int .i64 ((rd_T67 l0 x23_1).f1)] 67 (0,0)) (by(with_reducible repeat(first|refine blk_drewN ?_ _|refine blk_drew ?_|refine blk_alloc ?_ _));refine blk_put (cs:=#[.int .i64 ((rd_T67 l0 x23_1).f0),.int .i64 0]) ?_ 1 _ rfl;(with_reducible repeat(first|refine blk_drewN ?_ _|refine blk_drew ?_|refine blk_alloc ?_ _));refine blk_put (cs:=#[.int .i64 0,.int .i64 0]) ?_ 0 _ rfl;exact(bo_ BK7000)) hb);have n6_:=Aside0.mk (below_step bl_ hb);have n7_:=Aside0.mk (hbox);have n8_:=Aside0.mk ((ge_ hg bl_:w.heap.size≤gb7001));have n9_:=Aside0.mk ((ge_ hg bl_:w.heap.size≤gb7001));have n10_:=Aside0.mk ((by rw [hg];exact Nat.ne_of_lt (blk_lt (g:=gb469) (o:=.cells #[.slice none 0 0,.slice none 0 0] 98 (0,0)) (by(with_reducible repeat(first|refine blk_drewN ?_ _|refine blk_drew ?_|refine blk_alloc ?_ _));refine blk_far ?_ NB469_7000.out _;(with_reducible repeat(first|refine blk_drewN ?_ _|refine blk_drew ?_|refine blk_alloc ?_ _));refine blk_far ?_ NB469_7000.out _;exact(bo_ BK469))):gb469≠gb7001));have n11_:=Aside0.mk ((by rw [hg];exact Nat.ne_of_gt (blk_lt (g:=gb469) (o:=.cells #[.slice none 0 0,.slice none 0 0] 98 (0,0)) (by(with_reducible repeat(first|refine blk_drewN ?_ _|refine blk_drew ?_|refine blk_alloc ?_ _));refine blk_far ?_ NB469_7000.out _;(with_reducible repeat(first|refine blk_drewN ?_ _|refine blk_drew ?_|refine blk_alloc ?_ _));refine blk_far ?_ NB469_7000.out _;exact(bo_ BK469))):gb7001≠gb469));have n12_:=Aside0.mk ((by rw [hg];exact Nat.ne_of_lt (blk_lt (g:=gb474) (o:=.cells #[u475000,.slice none 0 0] 98 (0,0)) (by(with_reducible repeat(first|refine blk_drewN ?_ _|refine blk_drew ?_|refine blk_alloc ?_ _));refine blk_far ?_ NB474_7000.out _;(with_reducible repeat(first|refine blk_drewN ?_ _|refine blk_drew ?_|refine blk_alloc ?_ _));refine blk_far ?_ NB474_7000.out _;exact(bo_ BK474))):gb474≠gb7001));have n13_:=Aside0.mk ((by rw [hg];exact Nat.ne_of_gt (blk_lt (g:=gb474) (o:=.cells #[u475000,.slice none 0 0] 98 (0,0)) (by(with_reducible repeat(first|refine blk_drewN ?_ _|refine blk_drew ?_|refine blk_alloc ?_ _));refine blk_far ?_ NB474_7000.out _;(with_reducible repeat(first|refine blk_drewN ?_ _|refine blk_drew ?_|refine blk_alloc ?_ _));refine blk_far ?_ NB474_7000.out _;exact(bo_ BK474))):gb7001≠gb474));have n7000_:=Aside0.mk ((by rw [hg];exact Nat.ne_of_lt (blk_lt (g:=gb475) (o:=.cells #[.int .i64 x476000_1,.int .i64 x476001_1] 67 (0,0)) (by(with_reducible repeat(first|refine blk_drewN ?_ _|refine blk_drew ?_|refine blk_alloc ?_ _));refine blk_far ?_ NB475_7000.out _;(with_reducible repeat(first|refine blk_drewN ?_ _|refine blk_drew ?_|refine blk_alloc ?_ _));refine blk_far ?_ NB475_7000.out _;exact(bo_ BK475))):gb475≠gb7001));have n7001_:=Aside0.mk ((by rw [hg];exact Nat.ne_of_gt (blk_lt (g:=gb475) (o:=.cells #[.int .i64 x476000_1,.int .i64 x476001_1] 67 (0,0)) (by(with_reducible repeat(first|refine blk_drewN ?_ _|refine blk_drew ?_|refine blk_alloc ?_ _));refine blk_far ?_ NB475_7000.out _;(with_reducible repeat(first|refine blk_drewN ?_ _|refine blk_drew ?_|refine blk_alloc ?_ _));refine blk_far ?_ NB475_7000.out _;exact(bo_ BK475))):gb7001≠gb475));have n7002_:=Aside0.mk ((by rw [hg];exact Nat.ne_of_lt (blk_lt (g:=gb476) (o:=.cells #[.int .i64 x477000_1,.int .i64 x477001_1] 67 (0,0)) (by(with_reducible repeat(first|refine blk_drewN ?_ _|refine blk_drew ?_|refine blk_alloc ?_ _));refine blk_far ?_ NB476_7000.out _;(with_reducible repeat(first|refine blk_drewN ?_ _|refine blk_drew ?_|refine blk_alloc ?_ _));refine blk_far ?_ NB476_7000.out _;exact(bo_ BK476))):gb476≠gb7001));have n7003_:=Aside0.mk ((by rw [hg];exact Nat.ne_of_gt (blk_lt (g:=gb476) (o:=.cells #[.int .i64 x477000_1,.int .i64 x477001_1] 67 (0,0)) (by(with_reducible repeat(first|refine blk_drewN ?_ _|refine blk_drew ?_|refine blk_alloc ?_ _));refine blk_far ?_ NB476_7000.out _;(with_reducible repeat(first|refine blk_drewN ?_ _|refine blk_drew ?_|refine blk_alloc ?_ _));refine blk_far ?_ NB476_7000.out _;exact(bo_ BK476))):gb7001≠gb476));have n7004_:=Aside0.mk ((by rw [hg];exact Nat.ne_of_lt (blk_lt (g:=gb7000) (o:=.cells #[.int .i64 ((rd_T67 l0 x23_1).f0),.int .i64 ((rd_T67 l0 x23_1).f1)] 67 (0,0)) (by(with_reducible repeat(first|refine blk_drewN ?_ _|refine blk_drew ?_|refine blk_alloc ?_ _));refine blk_put (cs:=#[.int .i64 ((rd_T67 l0 x23_1).f0),.int .i64 0]) ?_ 1 _ rfl;(with_reducible repeat(first|refine blk_drewN ?_ _|refine blk_drew ?_|refine blk_alloc ?_ _));refine blk_put (cs:=#[.int .i64 0,.int .i64 0]) ?_ 0 _ rfl;exact(bo_ BK7000))):gb7000≠gb7001));have n7005_:=Aside0.mk ((by rw [hg];exact Nat.ne_of_gt (blk_lt (g:=gb7000) (o:=.cells #[.int .i64 ((rd_T67 l0 x23_1).f0),.int .i64 ((rd_T67 l0 x23_1).f1)] 67 (0,0)) (by(with_reducible repeat(first|refine blk_drewN ?_ _|refine blk_drew ?_|refine blk_alloc ?_ _));refine blk_put (cs:=#[.int .i64 ((rd_T67 l0 x23_1).f0),.int .i64 0]) ?_ 1 _ rfl;(with_reducible repeat(first|refine blk_drewN ?_ _|refine blk_drew ?_|refine blk_alloc ?_ _));refine blk_put (cs:=#[.int .i64 0,.int .i64 0]) ?_ 0 _ rfl;exact(bo_ BK7000))):gb7001≠gb7000));clear HO_475000;clear BK469;clear BK474;clear BK475;clear BK476;clear BK7000;clear HB;have HO_475000:=n0_;have BK469:=n1_;have BK474:=n2_;have BK475:=n3_;have BK476:=n4_;have BK7000:=n5_;have HB:=n6_;have BK7001:=n7_;have GW7001:=n8_;have GE7001:=n9_;have NB469_7001:=n10_;have NB7001_469:=n11_;have NB474_7001:=n12_;have NB7001_474:=n13_;have NB475_7001:=n7000_;have NB7001_475:=n7001_;have NB476_7001:=n7002_;have NB7001_476:=n7003_;have NB7000_7001:=n7004_;have NB7001_7000:=n7005_;clear n0_ n1_ n2_ n3_ n4_ n5_ n6_ n7_ n8_ n9_ n10_ n11_ n12_ n13_ n7000_ n7001_ n7002_ n7003_ n7004_ n7005_;clear hb hbox hg;have hnb7007:=NB7001_469.out;have hnc7007:=NB469_7001.out;have hnb7008:=NB7001_474.out;have hnc7008:=NB474_7001.out;have hnb7009:=NB7001_475.out;have hnc7009:=NB475_7001.out;have hnb7010:=NB7001_476.out;have hnc7010:=NB476_7001.out;have hnb7011:=NB7001_7000.out;have hnc7011:=NB7000_7001.out;have hcz7002_0:w7001.cell? ⟨gb7001,0,none⟩=some (.int .i64 0):=(blk_cell BK7001.out 0).trans rfl;have hcz7002_1:w7001.cell? ⟨gb7001,1,none⟩=some (.int .i64 0):=(blk_cell BK7001.out 1).trans rfl;have hfz7002_0:=blk_frozen BK7001.out 0;have hfz7002_1:=blk_frozen BK7001.out 1;have hnb7012:=NB474_469.out;have hnc7012:=NB469_474.out;have hnb7013:=NB474_476.out;have hnc7013:=NB476_474.out;have hcz7003_0:w7001.cell? ⟨gb474,0,none⟩=some (u475000):=(blk_cell BK474.out 0).trans rfl;have hcz7003_1:w7001.cell? ⟨gb474,1,none⟩=some (.slice none 0 0):=(blk_cell BK474.out 1).trans rfl;have hfz7003_0:=blk_frozen BK474.out 0;have hfz7003_1:=blk_frozen BK474.out 1;have hnb7014:=NB476_469.out;have hnc7014:=NB469_476.out;have hcz7004_0:w7001.cell? ⟨gb476,0,none⟩=some (.int .i64 x477000_1):=(blk_cell BK476.out 0).trans rfl;have hcz7004_1:w7001.cell? ⟨gb476,1,none⟩=some (.int .i64 x477001_1):=(blk_cell BK476.out 1).trans rfl;have hfz7004_0:=blk_frozen BK476.out 0;have hfz7004_1:=blk_frozen BK476.out 1)|((with_reducible refine gate_dst (N:=51) rfl ?_);refine Kd.R_lit (Kd.int .i64) _ 3 ?hg (N:=51) ?hd (xs:=([wrap64 ((wrap64 (((rd_T67 l0 x23_1).f0) - x476000_1)) - x477000_1),wrap64 ((wrap64 (((rd_T67 l0 x23_1).f1) - x476001_1)) - x477001_1)]:List Int)) (inner:=[.int .i64 (wrap64 ((wrap64 (((rd_T67 l0 x23_1).f0) - x476000_1)) - x477000_1)),.int .i64 (wrap64 ((wrap64 (((rd_T67 l0 x23_1).f1) - x476001_1)) - x477001_1))]) (ok:=fun _=>True) (okp:=fun _=>True) ?hr ?hp (fun _ hk=>hk) trivial (Below.refl _ _) (Nat.le_refl _) (by simp) ?_;(case hd=>rfl);(case hg=>rfl);(case hr=>first|(go_simp;done)|(go_simp;rfl));(case hp=>exact(Reps.one (show Kd.M (Kd.int .i64) _ _ _ (wrap64 ((wrap64 (((rd_T67 l0 x23_1).f0) - x476000_1)) - x477000_1)) [.int .i64 (wrap64 ((wrap64 (((rd_T67 l0 x23_1).f0) - x476000_1)) - x477000_1))] from rfl) (Reps.one (show Kd.M (Kd.int .i64) _ _ _ (wrap64 ((wrap64 (((rd_T67 l0 x23_1).f1) - x476001_1)) - x477001_1)) [.int .i64 (wrap64 ((wrap64 (((rd_T67 l0 x23_1).f1) - x476001_1)) - x477001_1))] from rfl) (Reps.none _ _))));intro v7000 w7002 ho7000 hb hg_ hnew_;clear hg_ hnew_;(first|rw [←Ny480.out] at ho7000|(simp only [Int.reduceToNat] at ho7000;rw [←Ny480.out] at ho7000));have n_:=pk9 (Kd.R_elder' (rt_ ((Kd.R_mono (Kd.R_far (p:=⟨gb7001,1,none⟩) (Kd.R_far (p:=⟨gb7001,0,none⟩) (Kd.R_types HO_475000.out BK7001.out (by decide)) (fun _ hk=>hk.2) (.int .i64 (wrap64 (((rd_T67 l0 x23_1).f0) - x476000_1)))) (fun _ hk=>hk.2) (.int .i64 (wrap64 (((rd_T67 l0 x23_1).f1) - x476001_1)))) (fun _ h_=>h_.1)))) (Kd.R_base ho7000) hb) (Kd.R_lower (Kd.R_new' ho7000 (Kd.R_lt (rt_ ((Kd.R_mono (Kd.R_far (p:=⟨gb7001,1,none⟩) (Kd.R_far (p:=⟨gb7001,0,none⟩) (Kd.R_types HO_475000.out BK7001.out (by decide)) (fun _ hk=>hk.2) (.int .i64 (wrap64 (((rd_T67 l0 x23_1).f0) - x476000_1)))) (fun _ hk=>hk.2) (.int .i64 (wrap64 (((rd_T67 l0 x23_1).f1) - x476001_1)))) (fun _ h_=>h_.1)))))) (below_size bl_)) (blk_below (g:=gb469) (o:=.cells #[.slice none 0 0,.slice none 0 0] 98 (0,0)) (by(with_reducible repeat(first|refine blk_drewN ?_ _|refine blk_drew ?_|refine blk_alloc ?_ _));refine blk_far ?_ NB469_7001.out _;(with_reducible repeat(first|refine blk_drewN ?_ _|refine blk_drew ?_|refine blk_alloc ?_ _));refine blk_far ?_ NB469_7001.out _;exact(bo_ BK469)) hb) (blk_below (g:=gb474) (o:=.cells #[u475000,.slice none 0 0] 98 (0,0)) (by(with_reducible repeat(first|refine blk_drewN ?_ _|refine blk_drew ?_|refine blk_alloc ?_ _));refine blk_far ?_ NB474_7001.out _;(with_reducible repeat(first|refine blk_drewN ?_ _|refine blk_drew ?_|refine blk_alloc ?_ _));refine blk_far ?_ NB474_7001.out _;exact(bo_ BK474)) hb) (blk_below (g:=gb475) (o:=.cells #[.int .i64 x476000_1,.int .i64 x476001_1] 67 (0,0)) (by(with_reducible repeat(first|refine blk_drewN ?_ _|refine blk_drew ?_|refine blk_alloc ?_ _));refine blk_far ?_ NB475_7001.out _;(with_reducible repeat(first|refine blk_drewN ?_ _|refine blk_drew ?_|refine blk_alloc ?_ _));refine blk_far ?_ NB475_7001.out _;exact(bo_ BK475)) hb) (blk_below (g:=gb476) (o:=.cells #[.int .i64 x477000_1,.int .i64 x477001_1] 67 (0,0)) (by(with_reducible repeat(first|refine blk_drewN ?_ _|refine blk_drew ?_|refine blk_alloc ?_ _));refine blk_far ?_ NB476_7001.out _;(with_reducible repeat(first|refine blk_drewN ?_ _|refine blk_drew ?_|refine blk_alloc ?_ _));refine blk_far ?_ NB476_7001.out _;exact(bo_ BK476)) hb) (blk_below (g:=gb7000) (o:=.cells #[.int .i64 ((rd_T67 l0 x23_1).f0),.int .i64 ((rd_T67 l0 x23_1).f1)] 67 (0,0)) (by(with_reducible repeat(first|refine blk_drewN ?_ _|refine blk_drew ?_|refine blk_alloc ?_ _));refine blk_far ?_ NB7000_7001.out _;(with_reducible repeat(first|refine blk_drewN ?_ _|refine blk_drew ?_|refine blk_alloc ?_ _));refine blk_far ?_ NB7000_7001.out _;exact(bo_ BK7000)) hb) (blk_below (g:=gb7001) (o:=.cells #[.int .i64 (wrap64 (((rd_T67 l0 x23_1).f0) - x476000_1)),.int .i64 (wrap64 (((rd_T67 l0 x23_1).f1) - x476001_1))] 67 (0,0)) (by(with_reducible repeat(first|refine blk_drewN ?_ _|refine blk_drew ?_|refine blk_alloc ?_ _));refine blk_put (cs:=#[.int .i64 (wrap64 (((rd_T67 l0 x23_1).f0) - x476000_1)),.int .i64 0]) ?_ 1 _ rfl;(with_reducible repeat(first|refine blk_drewN ?_ _|refine blk_drew ?_|refine blk_alloc ?_ _));refine blk_put (cs:=#[.int .i64 0,.int .i64 0]) ?_ 0 _ rfl;exact(bo_ BK7001)) hb) (below_step bl_ hb);clear HO_475000 BK469 BK474 BK475 BK476 BK7000 BK7001 HB;obtain⟨HO_475000,HO7000,BK469,BK474,BK475,BK476,BK7000,BK7001,HB⟩:=n_;clear hb ho7000;obtain⟨Ao7000,co7000,eo7000⟩:=Kd.R_slice HO7000.out;subst eo7000)|((with_reducible refine gate_builtin (b:=.append) (xs:=#[.tmp 40,.tmp 51]) rfl ?_);at_builtin;refine Kd.R_append_rows (Kd.int .i64) (w0:=w) w.heap.size rfl (.tmp 40) (.tmp 51) 22 3 (.int .i64 0) 8 rfl Try.underlying22 info3 rfl (by decide) (by omega) u475000 x475000_1 y480 _ _ _ (fun k_=>some k_≠(.slice Ao7000 y480.length co7000:Value).ownBlock) (fun _=>False) rfl rfl ?aO ?aR (fun _ _ h=>h) (fun _ h=>h.elim) ?aF ?aB ?aS ?aL ?_;(case aR=>exact cr_ HO7000);(case aB=>exact bl_);(case aF=>exact(fun k_ hk=>Kd.fresh' (Kd.R_lt (ro_ HO7000)) k_ hk));(case aO=>exact(rt_ (Kd.R_mono HO_475000.out (fun _ hk=>hk.2))));(case aS=>exact(below_size bl_));(case aL=>have:=LMc17.out;omega);intro v7001 w7003 ho hb hg hat;rw [←Ny483.out] at ho;have n_:=pk9 (blk_grown (bo_ BK469) hg (Kd.R_ne HO_475000.out BK469.out (by decide))) (blk_grown (bo_ BK474) hg (Kd.R_ne HO_475000.out BK474.out (by decide))) (blk_grown (bo_ BK475) hg (Kd.R_ne HO_475000.out BK475.out (by decide))) (blk_grown (bo_ BK476) hg (Kd.R_ne HO_475000.out BK476.out (by decide))) (blk_grown (bo_ BK7000) hg (Kd.R_ne HO_475000.out BK7000.out (by decide))) (blk_grown (bo_ BK7001) hg (Kd.R_ne HO_475000.out BK7001.out (by decide))) (Kd.R_after (ok:=(fun _=>True)) (ro_ HO7000) hg hat) (hb) (ho);clear BK469 BK474 BK475 BK476 BK7000 BK7001 HO7000 HB HO_475000;obtain⟨BK469,BK474,BK475,BK476,BK7000,BK7001,HO7000,HB,HO7001⟩:=n_;clear ho hb hg hat;obtain⟨Ao7001,co7001,eo7001⟩:=Kd.R_slice HO7001.out;subst eo7001;have hcz7005_0:w7003.cell? ⟨gb474,0,none⟩=some (u475000):=(blk_cell BK474.out 0).trans rfl;have hcz7005_1:w7003.cell? ⟨gb474,1,none⟩=some (.slice none 0 0):=(blk_cell BK474.out 1).trans rfl;have hfz7005_0:=blk_frozen BK474.out 0;have hfz7005_1:=blk_frozen BK474.out 1;have hcz7006_0:w7003.cell? ⟨gb7000,0,none⟩=some (.int .i64 ((rd_T67 l0 x23_1).f0)):=(blk_cell BK7000.out 0).trans rfl;have hcz7006_1:w7003.cell? ⟨gb7000,1,none⟩=some (.int .i64 ((rd_T67 l0 x23_1).f1)):=(blk_cell BK7000.out 1).trans rfl;have hfz7006_0:=blk_frozen BK7000.out 0;have hfz7006_1:=blk_frozen BK7000.out 1;have hcz7007_0:w7003.cell? ⟨gb475,0,none⟩=some (.int .i64 x476000_1):=(blk_cell BK475.out 0).trans rfl;have hcz7007_1:w7003.cell? ⟨gb475,1,none⟩=some (.int .i64 x476001_1):=(blk_cell BK475.out 1).trans rfl;have hfz7007_0:=blk_frozen BK475.out 0;have hfz7007_1:=blk_frozen BK475.out 1;(try(have hcz7008_0:w7003.cell? ⟨gb7001,0,none⟩=some (.int .i64 (wrap64 (((rd_T67 l0 x23_1).f0) - x476000_1))):=(blk_cell BK7001.out 0).trans rfl;have hcz7008_1:w7003.cell? ⟨gb7001,1,none⟩=some (.int .i64 (wrap64 (((rd_T67 l0 x23_1).f1) - x476001_1))):=(blk_cell BK7001.out 1).trans rfl;have hfz7008_0:=blk_frozen BK7001.out 0;have hfz7008_1:=blk_frozen BK7001.out 1;have hcz7009_0:w7003.cell? ⟨gb476,0,none⟩=some (.int .i64 x477000_1):=(blk_cell BK476.out 0).trans rfl;have hcz7009_1:w7003.cell? ⟨gb476,1,none⟩=some (.int .i64 x477001_1):=(blk_cell BK476.out 1).trans rfl;have hfz7009_0:=blk_frozen BK476.out 0;have hfz7009_1:=blk_frozen BK476.out 1))))
     first
      |go_roundg k1
       case measure=>have:=HK1.out;omega
       first
        |case rel=>exact⟨(wrap64 (x23_1+1)),(y483),((rd_T67 l0 x23_1).f0),((rd_T67 l0 x23_1).f1),(wrap64 (((rd_T67 l0 x23_1).f0) - x476000_1)),(wrap64 (((rd_T67 l0 x23_1).f1) - x476001_1)),(.slice Ao7001 y483.length co7001),sm_,H',⟨by have:=HK1.out;omega⟩,⟨(rt_ (Kd.R_mono (Kd.R_far (p:=⟨gb476,1,none⟩) (Kd.R_far (p:=⟨gb476,0,none⟩) (Kd.R_far (p:=⟨gb475,1,none⟩) (Kd.R_far (p:=⟨gb475,0,none⟩) (Kd.R_far (p:=⟨gb474,0,none⟩) (Kd.R_types (Kd.R_types (Kd.R_types HO7001.out BK474.out (by decide)) BK475.out (by decide)) BK476.out (by decide)) (fun _ hk=>hk.1.1.2) (.slice Ao7001 y483.length co7001)) (fun _ hk=>hk.1.2) (.int .i64 ((rd_T67 l0 x23_1).f0))) (fun _ hk=>hk.1.2) (.int .i64 ((rd_T67 l0 x23_1).f1))) (fun _ hk=>hk.2) (.int .i64 (wrap64 (((rd_T67 l0 x23_1).f0) - x476000_1)))) (fun _ hk=>hk.2) (.int .i64 (wrap64 (((rd_T67 l0 x23_1).f1) - x476001_1)))) (fun _ hk=>trivial)))⟩,⟨by(with_reducible repeat(first|refine blk_drewN ?_ _|refine blk_drew ?_|refine blk_alloc ?_ _));refine blk_far ?_ NB469_476.out _;(with_reducible repeat(first|refine blk_drewN ?_ _|refine blk_drew ?_|refine blk_alloc ?_ _));refine blk_far ?_ NB469_476.out _;(with_reducible repeat(first|refine blk_drewN ?_ _|refine blk_drew ?_|refine blk_alloc ?_ _));refine blk_far ?_ NB469_475.out _;(with_reducible repeat(first|refine blk_drewN ?_ _|refine blk_drew ?_|refine blk_alloc ?_ _));refine blk_far ?_ NB469_475.out _;(with_reducible repeat(first|refine blk_drewN ?_ _|refine blk_drew ?_|refine blk_alloc ?_ _));refine blk_far ?_ NB469_474.out _;exact(bo_ BK469)⟩,⟨by(with_reducible repeat(first|refine blk_drewN ?_ _|refine blk_drew ?_|refine blk_alloc ?_ _));refine blk_far ?_ NB474_476.out _;(with_reducible repeat(first|refine blk_drewN ?_ _|refine blk_drew ?_|refine blk_alloc ?_ _));refine blk_far ?_ NB474_476.out _;(with_reducible repeat(first|refine blk_drewN ?_ _|refine blk_drew ?_|refine blk_alloc ?_ _));refine blk_far ?_ NB474_475.out _;(with_reducible repeat(first|refine blk_drewN ?_ _|refine blk_drew ?_|refine blk_alloc ?_ _));refine blk_far ?_ NB474_475.out _;(with_reducible repeat(first|refine blk_drewN ?_ _|refine blk_drew ?_|refine blk_alloc ?_ _));refine blk_put (cs:=#[u475000,.slice none 0 0]) ?_ 0 _ rfl;exact(bo_ BK474)⟩,⟨by(with_reducible repeat(first|refine blk_drewN ?_ _|refine blk_drew ?_|refine blk_alloc ?_ _));refine blk_far ?_ NB475_476.out _;(with_reducible repeat(first|refine blk_drewN ?_ _|refine blk_drew ?_|refine blk_alloc ?_ _));refine blk_far ?_ NB475_476.out _;(with_reducible repeat(first|refine blk_drewN ?_ _|refine blk_drew ?_|refine blk_alloc ?_ _));refine blk_put (cs:=#[.int .i64 ((rd_T67 l0 x23_1).f0),.int .i64 x476001_1]) ?_ 1 _ rfl;(with_reducible repeat(first|refine blk_drewN ?_ _|refine blk_drew ?_|refine blk_alloc ?_ _));refine blk_put (cs:=#[.int .i64 x476000_1,.int .i64 x476001_1]) ?_ 0 _ rfl;(with_reducible repeat(first|refine blk_drewN ?_ _|refine blk_drew ?_|refine blk_alloc ?_ _));refine blk_far ?_ NB475_474.out _;exact(bo_ BK475)⟩,⟨by(with_reducible repeat(first|refine blk_drewN ?_ _|refine blk_drew ?_|refine blk_alloc ?_ _));refine blk_put (cs:=#[.int .i64 (wrap64 (((rd_T67 l0 x23_1).f0) - x476000_1)),.int .i64 x477001_1]) ?_ 1 _ rfl;(with_reducible repeat(first|refine blk_drewN ?_ _|refine blk_drew ?_|refine blk_alloc ?_ _));refine blk_put (cs:=#[.int .i64 x477000_1,.int .i64 x477001_1]) ?_ 0 _ rfl;(with_reducible repeat(first|refine blk_drewN ?_ _|refine blk_drew ?_|refine blk_alloc ?_ _));refine blk_far ?_ NB476_475.out _;(with_reducible repeat(first|refine blk_drewN ?_ _|refine blk_drew ?_|refine blk_alloc ?_ _));refine blk_far ?_ NB476_475.out _;(with_reducible repeat(first|refine blk_drewN ?_ _|refine blk_drew ?_|refine blk_alloc ?_ _));refine blk_far ?_ NB476_474.out _;exact(bo_ BK476)⟩,⟨bl_⟩⟩
        |case rel=>exact⟨(wrap64 (x23_1+1)),(y483),((rd_T67 l0 x23_1).f0),((rd_T67 l0 x23_1).f1),(x477000_1),(x477001_1),(.slice Ao7001 y483.length co7001),sm_,H',⟨by have:=HK1.out;omega⟩,⟨(rt_ (Kd.R_mono (Kd.R_far (p:=⟨gb475,1,none⟩) (Kd.R_far (p:=⟨gb475,0,none⟩) (Kd.R_far (p:=⟨gb474,0,none⟩) (Kd.R_types (Kd.R_types HO7001.out BK474.out (by decide)) BK475.out (by decide)) (fun _ hk=>hk.1.2) (.slice Ao7001 y483.length co7001)) (fun _ hk=>hk.2) (.int .i64 ((rd_T67 l0 x23_1).f0))) (fun _ hk=>hk.2) (.int .i64 ((rd_T67 l0 x23_1).f1))) (fun _ hk=>trivial)))⟩,⟨by(with_reducible repeat(first|refine blk_drewN ?_ _|refine blk_drew ?_|refine blk_alloc ?_ _));refine blk_far ?_ NB469_475.out _;(with_reducible repeat(first|refine blk_drewN ?_ _|refine blk_drew ?_|refine blk_alloc ?_ _));refine blk_far ?_ NB469_475.out _;(with_reducible repeat(first|refine blk_drewN ?_ _|refine blk_drew ?_|refine blk_alloc ?_ _));refine blk_far ?_ NB469_474.out _;exact(bo_ BK469)⟩,⟨by(with_reducible repeat(first|refine blk_drewN ?_ _|refine blk_drew ?_|refine blk_alloc ?_ _));refine blk_far ?_ NB474_475.out _;(with_reducible repeat(first|refine blk_drewN ?_ _|refine blk_drew ?_|refine blk_alloc ?_ _));refine blk_far ?_ NB474_475.out _;(with_reducible repeat(first|refine blk_drewN ?_ _|refine blk_drew ?_|refine blk_alloc ?_ _));refine blk_put (cs:=#[u475000,.slice none 0 0]) ?_ 0 _ rfl;exact(bo_ BK474)⟩,⟨by(with_reducible repeat(first|refine blk_drewN ?_ _|refine blk_drew ?_|refine blk_alloc ?_ _));refine blk_put (cs:=#[.int .i64 ((rd_T67 l0 x23_1).f0),.int .i64 x476001_1]) ?_ 1 _ rfl;(with_reducible repeat(first|refine blk_drewN ?_ _|refine blk_drew ?_|refine blk_alloc ?_ _));refine blk_put (cs:=#[.int .i64 x476000_1,.int .i64 x476001_1]) ?_ 0 _ rfl;(with_reducible repeat(first|refine blk_drewN ?_ _|refine blk_drew ?_|refine blk_alloc ?_ _));refine blk_far ?_ NB475_474.out _;exact(bo_ BK475)⟩,⟨by(with_reducible repeat(first|refine blk_drewN ?_ _|refine blk_drew ?_|refine blk_alloc ?_ _));refine blk_far ?_ NB476_475.out _;(with_reducible repeat(first|refine blk_drewN ?_ _|refine blk_drew ?_|refine blk_alloc ?_ _));refine blk_far ?_ NB476_475.out _;(with_reducible repeat(first|refine blk_drewN ?_ _|refine blk_drew ?_|refine blk_alloc ?_ _));refine blk_far ?_ NB476_474.out _;exact(bo_ BK476)⟩,⟨bl_⟩⟩
      |refine bodyPost_ret (results_ct rfl _ _ gb469 98 #[.slice Ao85 x475000_1.length co85,.slice none 0 0] (0,0) _ rfl (by(with_reducible repeat(first|refine blk_drewN ?_ _|refine blk_drew ?_|refine blk_alloc ?_ _));refine blk_put (cs:=#[.slice Ao85 x475000_1.length co85,.slice none 0 0]) ?_ 1 _ rfl;(with_reducible repeat(first|refine blk_drewN ?_ _|refine blk_drew ?_|refine blk_alloc ?_ _));refine blk_put (cs:=#[.slice none 0 0,.slice none 0 0]) ?_ 0 _ rfl;exact(bo_ BK469)) Try.underlying98 rfl (by kernel_rfl)) rfl ?_
       exact⟨_,_,rf_,(rt_ (Kd.R_mono (Kd.R_far (p:=⟨gb469,1,none⟩) (Kd.R_far (p:=⟨gb469,0,none⟩) (Kd.R_types HO_475000.out BK469.out (by decide)) (fun _ hk=>hk.2) (.slice Ao85 x475000_1.length co85)) (fun _ hk=>hk.2) (.slice none 0 0)) (fun _ hk=>trivial))),nl_,bl_⟩
 simp only [Option.some.injEq,Prod.mk.injEq] at H
 obtain⟨rfl,rfl,rfl⟩:=H
 go_enter Try.func70,Try.ntmps70
 go_wp2_with (first|((with_reducible refine gate_dst (N:=2) rfl ?_);refine box_ev 2 #[.slice none 0 0,.slice none 0 0] 98 ?_;intro gb469 hg w7100 hbox hb;have n_:=pk4 (below_step bl_ hb) (hbox) ((ge_ hg bl_:w.heap.size≤gb469)) ((ge_ hg bl_:w.heap.size≤gb469));clear HB;obtain⟨HB,BK469,GW469,GE469⟩:=n_;clear hb hbox hg)|((with_reducible refine gate_callee (f:=75) rfl ?_);refine goL_ (some 12) Try.func75 #[.slice A0 l0.length c0] ?_;(with_reducible refine(block_Check.calls k _ _ l0 t470 _ ?side1 ?side2 A2.out).mono ?_);(case side1=>exact cb_ HR0);(case side2=>exact HC0.out);rintro e w7101 ⟨rfl,hb⟩;refine⟨_,rfl,?_⟩;have n_:=pk2 (blk_below (bo_ BK469) hb) (below_step bl_ hb);clear BK469 HB;obtain⟨BK469,HB⟩:=n_;(try clear hb);have hcz7100_0:w7101.cell? ⟨gb469,0,none⟩=some (.slice none 0 0):=(blk_cell BK469.out 0).trans rfl;have hcz7100_1:w7101.cell? ⟨gb469,1,none⟩=some (.slice none 0 0):=(blk_cell BK469.out 1).trans rfl;have hfz7100_0:=blk_frozen BK469.out 0;have hfz7100_1:=blk_frozen BK469.out 1))
 refine bodyPost_ret (results_ct rfl _ _ gb469 98 #[.slice none 0 0,.slice none 0 0] (0,0) _ rfl (by(with_reducible repeat(first|refine blk_drewN ?_ _|refine blk_drew ?_|refine blk_alloc ?_ _));refine blk_put (cs:=#[.slice none 0 0,.slice none 0 0]) ?_ 1 _ rfl;(with_reducible repeat(first|refine blk_drewN ?_ _|refine blk_drew ?_|refine blk_alloc ?_ _));refine blk_put (cs:=#[.slice none 0 0,.slice none 0 0]) ?_ 0 _ rfl;exact(bo_ BK469)) Try.underlying98 rfl (by kernel_rfl)) rfl ?_
 exact⟨_,_,rf_,nl_,nl_,bl_⟩
def gorilla_zeros.l0:Nat→List Int→Int→Int→Option (Int)
 |0,_,_,_=>none
 |k+1,x0,x1,x5=>if x5<16 then(if(wrap64 ((wrap64 (x1+(wrap64 (2*x5))))+1))<(x0.length:Int)then(if 0≤(wrap64 (x1+(wrap64 (2*x5))))then(if(wrap64 (x1+(wrap64 (2*x5))))<(x0.length:Int)then(if(rd x0 (wrap64 (x1+(wrap64 (2*x5)))))=0 then(if 0≤(wrap64 ((wrap64 (x1+(wrap64 (2*x5))))+1))then(if(rd x0 (wrap64 ((wrap64 (x1+(wrap64 (2*x5))))+1)))=0 then(gorilla_zeros.l0 k x0 x1 (wrap64 (x5+1)))else(some x5))else(none))else(some x5))else(none))else(none))else(some x5))else(some x5)
def gorilla_zeros.f (k:Nat) (l0:List Int) (a1:Int):Option (Int):=gorilla_zeros.l0 k l0 a1 0
theorem gorilla_zeros.mono_l:∀ k,(∀ y0 y1 y2,LeO (gorilla_zeros.l0 k y0 y1 y2) (gorilla_zeros.l0 (k+1) y0 y1 y2))
 |0=>fun _ _ _ r h=>by simp [gorilla_zeros.l0] at h
 |k+1=>by
  have ih0:=gorilla_zeros.mono_l k
  ·intro y0 y1 y2
   unfold gorilla_zeros.l0
   repeat' first
   |(with_reducible exact ih0 _ _ _)
   |(with_reducible exact LeO.refl _)
   |(with_reducible exact LeO.none _)
   |(with_reducible refine LeO.ite ?_ ?_)
   |(with_reducible refine LeO.bind ?_ (fun _=>?_))
   |exact ih0 _ _ _
   |exact LeO.none _
   |refine LeO.ite ?_ ?_
   |refine LeO.bind ?_ (fun _=>?_)
theorem gorilla_zeros.mono:∀ a0 a1 k,LeO (gorilla_zeros.f k a0 a1) (gorilla_zeros.f (k+1) a0 a1):=by
 intro a0 a1 k
 have ih0:=gorilla_zeros.mono_l k
 unfold gorilla_zeros.f
 repeat' first
   |(with_reducible exact ih0 _ _ _)
   |(with_reducible exact LeO.refl _)
   |(with_reducible exact LeO.none _)
   |(with_reducible refine LeO.ite ?_ ?_)
   |(with_reducible refine LeO.bind ?_ (fun _=>?_))
   |exact ih0 _ _ _
   |exact LeO.none _
   |refine LeO.ite ?_ ?_
   |refine LeO.bind ?_ (fun _=>?_)
theorem gorilla_zeros.calls (k:Nat) (A0:Option Addr) (c0:Nat) (l0:List Int) (a1:Int) (r:Int) (w:World) (hr0:Kd.C (Kd.int .i64) w A0 l0.length l0) (hc0:l0.length≤c0) (h:gorilla_zeros.f k l0 a1=some r) :
  Calls Try.prog 84 #[.slice A0 l0.length c0,.int .i64 a1] w fun e w'=>e=.returned (.int .i64 r)∧Drawn0 w w':=by
 have HR0:=Aside0.mk hr0
 have HC0:=Aside0.mk hc0
 clear hr0 hc0
 have H:(gorilla_zeros.l0 k l0 a1 0)=some r:=h
 clear h
 have H':=Aside0.mk H
 clear H
 go_enter Try.func84,Try.ntmps84
 go_wp2
 go_loopg [5] k (fun kq v5 w'=>∃ (x5_1:Int),v5=.int .i64 x5_1∧Aside0 (gorilla_zeros.l0 kq l0 a1 x5_1=some r)∧Aside0 (kq≤k)∧Drawn0 w w')
 case atStart=>exact⟨(0),sm_,H',⟨Nat.le_refl _⟩,by repeat(first|exact Drawn0.refl _|apply Drawn0.step)⟩
 case round =>
  clear H'
  obtain⟨x5_1,rfl,HA,HK1,⟨m1,rfl⟩⟩:=hrel
  cases gk with
  |zero=>exact absurd HA.out (by simp [gorilla_zeros.l0])
  |succ k1 =>
   have H:=HA.out
   clear HA
   simp only [gorilla_zeros.l0] at H
   replace H:=dle H
   rcases H with⟨c3b0,H⟩|⟨c3b0,H⟩
   focus
    replace H:=dle H
    rcases H with⟨c4b0,H⟩|⟨c4b0,H⟩
    focus
     obtain⟨ji5,hji5⟩:∃ j_:Int,(wrap64 (a1+(wrap64 (2*x5_1))))=j_:=⟨_,rfl⟩
     (try rw [hji5] at c4b0)
     replace H:(if 0≤(ji5)then(if(ji5)<(l0.length:Int)then(if(rd l0 (ji5))=0 then(if 0≤(wrap64 ((ji5)+1))then(if(rd l0 (wrap64 ((ji5)+1)))=0 then(gorilla_zeros.l0 k1 l0 a1 (wrap64 (x5_1+1)))else(some x5_1))else(none))else(some x5_1))else(none))else(none))=some r:=by first|(rw [hji5] at H;exact H)|(simp only [hji5] at H ⊢;exact H)
     (try rw [hji5] at c4b0)
     have hji5w:(IntKind.i64.wrap (a1+(wrap64 (2*x5_1))))=ji5:=(i64_w _).trans hji5
     replace H:=dle H
     rcases H with⟨c6b0,H⟩|⟨c6b0,H⟩
     rotate_left
     ·exact absurd H (by simp)
     replace H:=dle H
     rcases H with⟨c7b0,H⟩|⟨c7b0,H⟩
     rotate_left
     ·exact absurd H (by simp)
     replace H:=deqn H
     rcases H with⟨c8b0,c8b1,H⟩|⟨c8b0,c8b1,c8,H⟩
     focus
      obtain⟨ji9,hji9⟩:∃ j_:Int,(wrap64 ((ji5)+1))=j_:=⟨_,rfl⟩
      (try rw [hji9] at c4b0)
      replace H:(if 0≤(ji9)then(if(rd l0 (ji9))=0 then(gorilla_zeros.l0 k1 l0 a1 (wrap64 (x5_1+1)))else(some x5_1))else(none))=some r:=by first|(rw [hji9] at H;exact H)|(simp only [hji9] at H ⊢;exact H)
      have hji9w:(IntKind.i64.wrap ((ji5)+1))=ji9:=(i64_w _).trans hji9
      replace H:=dle H
      rcases H with⟨c10b0,H⟩|⟨c10b0,H⟩
      rotate_left
      ·exact absurd H (by simp)
      replace H:=deqn H
      rcases H with⟨c11b0,c11b1,H⟩|⟨c11b0,c11b1,c11,H⟩
      focus
       have H':=Aside0.mk H
       clear H
       have p486:0≤((ji5):Int):=dc_
       have q486:(ji5)<(l0.length:Int):=dc_
       obtain⟨ad486,e486,hx486_0⟩:=Kd.at_int HR0.out (ji5) p486 q486
       cases e486
       replace p486:=eq_true p486
       replace q486:=eq_true q486
       have p487:0≤((ji9):Int):=dc_
       have q487:(ji9)<(l0.length:Int):=dc_
       obtain⟨ad487,e487,hx487_0⟩:=Kd.at_int HR0.out (ji9) p487 q487
       obtain rfl:ad486=ad487:=(by injection e487)
       replace p487:=eq_true p487
       replace q487:=eq_true q487
      rotate_left
      focus
       obtain rfl:=Option.some.inj H
       have p486:0≤((ji5):Int):=dc_
       have q486:(ji5)<(l0.length:Int):=dc_
       obtain⟨ad486,e486,hx486_0⟩:=Kd.at_int HR0.out (ji5) p486 q486
       cases e486
       replace p486:=eq_true p486
       replace q486:=eq_true q486
       have p487:0≤((ji9):Int):=dc_
       have q487:(ji9)<(l0.length:Int):=dc_
       obtain⟨ad487,e487,hx487_0⟩:=Kd.at_int HR0.out (ji9) p487 q487
       obtain rfl:ad486=ad487:=(by injection e487)
       replace p487:=eq_true p487
       replace q487:=eq_true q487
     rotate_left 2
     focus
      obtain rfl:=Option.some.inj H
      have p486:0≤((ji5):Int):=dc_
      have q486:(ji5)<(l0.length:Int):=dc_
      obtain⟨ad486,e486,hx486_0⟩:=Kd.at_int HR0.out (ji5) p486 q486
      cases e486
      replace p486:=eq_true p486
      replace q486:=eq_true q486
    rotate_left 3
    focus
     obtain rfl:=Option.some.inj H
   rotate_left 4
   focus
    obtain rfl:=Option.some.inj H
   all_goals
    go_wp2
    first
     |go_roundg k1
      case measure=>have:=HK1.out;omega
      case rel=>exact⟨(wrap64 (x5_1+1)),sm_,H',⟨by have:=HK1.out;omega⟩,by repeat(first|exact Drawn0.refl _|apply Drawn0.step)⟩
     |go_ret
      first
       |exact⟨by first|rfl|(simp;done)|(simp only [←hji5,←hji9]<;>(first|rfl|simp))|(simp [*];done),by repeat(first|exact Drawn0.refl _|apply Drawn0.step)⟩
       |exact⟨by first|rfl|(simp;done)|(simp only [←hji5]<;>(first|rfl|simp))|(simp [*];done),by repeat(first|exact Drawn0.refl _|apply Drawn0.step)⟩
       |exact⟨by first|rfl|(simp;done)|(simp [*];done),by repeat(first|exact Drawn0.refl _|apply Drawn0.step)⟩
end Go.Proofs.Ytmddmbagehjdeaa.G
end
section
namespace Go.Proofs.Ytmddmbagehjdeaa.G
open Go.RowKit Go.Proofs.YtmddmbagehjdeaaX Go.Proofs.YtmddmbagehjdeaaW.PrintWords Go.Proofs.YtmddmbagehjdeaaW.PrintLast Go.Proofs.YtmddmbagehjdeaaW.PrintMore
attribute [local go_sem] max2_int min2_int max_two min_two max_three min_three max_four min_four
def bits_fold.f (a0:Int):Option (Int):=some (Go.bits .xor .u64 (IntKind.u64.wrap ((IntKind.u64.wrap (a0))*2)) (IntKind.u64.wrap (a0 / 9223372036854775808)))
theorem bits_fold.calls (a0:Int) (r:Int) (w:World) (h:bits_fold.f a0=some r) :
  Calls Try.prog 62 #[.int .i64 a0] w fun e w'=>e=.returned (.int .u64 r)∧Drawn0 w w':=by
 have H:(some (Go.bits .xor .u64 (IntKind.u64.wrap ((IntKind.u64.wrap (a0))*2)) (IntKind.u64.wrap (a0 / 9223372036854775808))))=some r:=h
 clear h
 obtain rfl:=Option.some.inj H
 go_enter Try.func62,Try.ntmps62
 go_wp2
 go_ret
 exact⟨by first|rfl|(simp;done)|(simp [*];done),by repeat(first|exact Drawn0.refl _|apply Drawn0.step)⟩
def bits_width.f (a0:Int):Option (Int):=if a0=0 then(some 0)else(if a0=1 then(some 7)else(if a0=2 then(some 12)else(if a0=3 then(some 20)else(some 64))))
theorem bits_width.calls (a0:Int) (r:Int) (w:World) (h:bits_width.f a0=some r) :
  Calls Try.prog 63 #[.int .i64 a0] w fun e w'=>e=.returned (.int .i64 r)∧Drawn0 w w':=by
 have H:(if a0=0 then(some 0)else(if a0=1 then(some 7)else(if a0=2 then(some 12)else(if a0=3 then(some 20)else(some 64)))))=some r:=h
 clear h
 replace H:=deqn H
 rcases H with⟨c2b0,c2b1,H⟩|⟨c2b0,c2b1,c2,H⟩
 focus
  obtain rfl:=Option.some.inj H
 rotate_left
 focus
  replace H:=deqn H
  rcases H with⟨c3b0,c3b1,H⟩|⟨c3b0,c3b1,c3,H⟩
  focus
   obtain rfl:=Option.some.inj H
  rotate_left
  focus
   replace H:=deqn H
   rcases H with⟨c4b0,c4b1,H⟩|⟨c4b0,c4b1,c4,H⟩
   focus
    obtain rfl:=Option.some.inj H
   rotate_left
   focus
    replace H:=deqn H
    rcases H with⟨c5b0,c5b1,H⟩|⟨c5b0,c5b1,c5,H⟩
    focus
     obtain rfl:=Option.some.inj H
    rotate_left
    focus
     obtain rfl:=Option.some.inj H
 all_goals
  go_enter Try.func63,Try.ntmps63
  go_wp2
  go_ret
  exact⟨by first|rfl|(simp;done)|(simp [*];done),by repeat(first|exact Drawn0.refl _|apply Drawn0.step)⟩
end Go.Proofs.Ytmddmbagehjdeaa.G
end
