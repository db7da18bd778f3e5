/- More lines for the row. -/
import Derived.Test.YtmddmbagehjdeaaZGorillaDatas12
import Derived.Deep.Slices
import Derived.OpenShut
import Derived.ProofKit
set_option linter.unusedVariables false
set_option linter.unusedSimpArgs false
set_option maxRecDepth 100000
section
namespace Go.Proofs.YtmddmbagehjdeaaX
open Go Go.RowKit Go.Proofs.YtmddmbagehjdeaaW.PrintWords Go.ChangeShapes Go.WideShapes
def Rd (P:Program) (t:TypeId) {α:Type} (d:Kd α) (ok:α→Prop):Prop :=
 ∀ {H:Type} (enc:TypeId×Value→H) (W:World) (base:Nat) (spare:Nat→Bool) (held:Bool) (fuel:Nat) (cs:List Value) (x:DataW H×List MemPlace),
  DataW.trod enc P W base spare held fuel t cs=some x→∃ a,d.K W a cs∧ok a
def RdFs (P:Program) (L:List (TypeId×Nat)) (o e:Nat) {α:Type} (d:Kd α) (ok:α→Prop):Prop :=
 ∀ {H:Type} (enc:TypeId×Value→H) (W:World) (base:Nat) (spare:Nat→Bool) (held:Bool) (fuel:Nat) (cs:List Value),cs.length=e →
  (∀ (i:Nat) (p:TypeId×Nat),L[i]?=some p→∃ y,DataW.trod enc P W base spare held fuel p.1 ((cs.drop p.2).take (P.cellsOf p.1))=some y)→∃ a,d.K W a (cs.drop o)∧ok a
section
variable {P : Program} {t e : TypeId}
theorem Rd.int {k:IntKind} (ht:P.underlying t=some (.int k)):Rd P t (Kd.int k) (fun n=>(Lit.int k n).wf=true):=by
 intro H enc W base spare held fuel cs x h
 obtain⟨n,rfl,_,hn⟩:=DataW.trod_int ht h
 exact⟨n,rfl,hn⟩
theorem Rd.bool (ht:P.underlying t=some .bool):Rd P t Kd.bool (fun _=>True):=by
 intro H enc W base spare held fuel cs x h
 obtain⟨b,rfl,_⟩:=DataW.trod_bool ht h
 exact⟨b,rfl,trivial⟩
theorem Rd.string (ht:P.underlying t=some .string):Rd P t Kd.string (fun s=>s.size≤maxLen):=by
 intro H enc W base spare held fuel cs x h
 obtain⟨s,rfl,_,hs⟩:=DataW.trod_string ht h
 exact⟨s,rfl,hs⟩
theorem bZ9 {w:World} {base:Nat} {a:Addr} {n:Nat} {cs:List Value} (h:w.cells? base a n=some cs):∀ i u,cs[i]?=some u→w.cell? (a.add i)=some u:=by
 intro i u hi
 obtain⟨_,hl,hc⟩:=World.cells?_some h
 have hlt:i<cs.length:=(List.getElem?_eq_some_iff.1 hi).1
 have:=hc i (by omega)
 rw [hi] at this
 exact this
theorem Rd.slice {α:Type} {d:Kd α} {ok:α→Prop} (ht:P.underlying t=some (.slice e)) (he:P.cellsOf e=d.sz) (hd:Rd P e d ok) :
  Rd P t (Kd.slice e d) (fun l=>l.length≤maxLen∧∀ x ∈ l,ok x):=by
 intro H enc W base spare held fuel cs x h
 rcases Deep.open_slice ht h with⟨rfl,_⟩|⟨a,len,cap,m,n,D,Pl,rfl,hb,hl,hm,hmm,rfl,hx⟩
 ·exact⟨[],⟨none,0,rfl,Nat.le_refl _,rfl,by simp,fun h0=>absurd h0 (Nat.lt_irrefl _)⟩,by simp [maxLen],fun x hx=>by cases hx⟩
 ·have hlm:len≤m:=by rw [hmm];split<;>omega
  have hall:∀ i,i<len→∃ y:α,(∃ c,W.cells? base (a.add (i*P.cellsOf e)) (P.cellsOf e)=some c∧d.K W y c)∧ok y:=by
   intro i hi
   obtain⟨c,h1,h2⟩:=hx i (by omega)
   obtain⟨y,h3,h4⟩:=hd enc W base spare held n c _ h2
   exact⟨y,⟨c,h1,h3⟩,h4⟩
  have hlist:∃ l:List α,l.length=len∧∀ i y,l[i]?=some y→(∃ c,W.cells? base (a.add (i*P.cellsOf e)) (P.cellsOf e)=some c∧d.K W y c)∧ok y:=by
   have key:∀ k,k≤len→∃ l:List α,l.length=k∧∀ i y,l[i]?=some y→(∃ c,W.cells? base (a.add (i*P.cellsOf e)) (P.cellsOf e)=some c∧d.K W y c)∧ok y:=by
    intro k
    induction k with
    |zero=>exact fun _=>⟨[],rfl,fun i y hy=>by simp at hy⟩
    |succ k ih =>
     intro hk
     obtain⟨l,hl1,hl2⟩:=ih (by omega)
     obtain⟨y,hy⟩:=hall k (by omega)
     refine⟨l++[y],by simp [hl1],fun i z hz=>?_⟩
     rcases Nat.lt_or_ge i l.length with hi|hi
     ·rw [List.getElem?_append_left hi] at hz
      exact hl2 i z hz
     ·rw [List.getElem?_append_right hi] at hz
      have h0:i - l.length=0:=by
       have:=(List.getElem?_eq_some_iff.1 hz).1
       simp at this
       omega
      rw [h0] at hz
      simp at hz
      subst hz
      have:i=k:=by omega
      subst this
      exact hy
   exact key len (Nat.le_refl _)
  obtain⟨l,hl1,hl2⟩:=hlist
  refine⟨l,⟨some a,cap,by rw [hl1],by omega,rfl,by rw [hl1];simp only [maxLen] at hm;omega,fun _=>⟨a,rfl,fun j p hp=>?_⟩⟩,by omega,fun y hy=>?_⟩
  ·obtain⟨⟨c,h1,h2⟩,_⟩:=hl2 j p hp
   refine⟨c,d.K_len h2,h2,fun i u hu=>?_⟩
   have:=bZ9 h1 i u hu
   rw [Deep.add_add,he] at this
   exact this
  ·obtain⟨i,hi,rfl⟩:=List.getElem_of_mem hy
   exact(hl2 i _ (List.getElem?_eq_getElem hi)).2
theorem RdFs.one {t o:Nat} {α:Type} {d:Kd α} {ok:α→Prop} (h:Rd P t d ok):RdFs P [(t,o)] o (o+P.cellsOf t) d ok:=by
 intro H enc W base spare held fuel cs hl hi
 obtain⟨y,hy⟩:=hi 0 _ rfl
 obtain⟨a,ha,hk⟩:=h enc W base spare held fuel _ _ hy
 rw [List.take_of_length_le (by simp [hl])] at ha
 exact⟨a,ha,hk⟩
theorem RdFs.cons {t o e':Nat} {L:List (TypeId×Nat)} {α β:Type} {d:Kd α} {d':Kd β} {ok:α→Prop} {ok':β→Prop} (h:Rd P t d ok) (hs:RdFs P L (o+P.cellsOf t) e' d' ok') :
  RdFs P ((t,o)::L) o e' (Kd.pair d d') (fun x=>ok x.1∧ok' x.2):=by
 intro H enc W base spare held fuel cs hl hi
 obtain⟨y,hy⟩:=hi 0 _ rfl
 obtain⟨a,ha,hk⟩:=h enc W base spare held fuel _ _ hy
 obtain⟨b,hb,hk'⟩:=hs enc W base spare held fuel cs hl (fun i p hp=>hi (i+1) p (by simpa using hp))
 refine⟨(a,b),⟨_,_,?_,ha,hb⟩,hk,hk'⟩
 rw [←List.drop_drop]
 exact(List.take_append_drop _ _).symm
theorem Rd.struct {α β:Type} {d:Kd α} {ok:α→Prop} {fs:Array Field} (f:β→α) (g:α→β) (hg:∀ a,f (g a)=a) (ht:P.underlying t=some (.struct fs))
  (h:RdFs P (fs.toList.map fun f=>(f.type,f.offset)) 0 (P.cellsOf t) d ok):Rd P t (Kd.iso d f) (fun x=>ok (f x)):=by
 intro H enc W base spare held fuel cs x hx
 obtain⟨xs,n,rfl,_,hl,hn,hi⟩:=DataW.trod_struct ht hx
 obtain⟨a,ha,hk⟩:=h enc W base spare held n cs hl (fun i p hp=>by
  rw [List.getElem?_map] at hp
  obtain⟨f',hf',rfl⟩:=Option.map_eq_some_iff.1 hp
  have h1:=hi i f' (by simpa using hf')
  have hlt:i<xs.length:=by
   have:=(List.getElem?_eq_some_iff.1 hf').1
   simp at this
   omega
  rw [List.getElem?_eq_getElem hlt] at h1
  exact⟨_,h1⟩)
 refine⟨g a,?_,by show ok (f (g a));rw [hg];exact hk⟩
 show d.K W (f (g a)) cs
 rw [hg]
 simpa using ha
theorem Rd.array {α β:Type} {d:Kd α} {ok:α→Prop} {n:Nat} (f:β→α) (g:α→β) (hg:∀ a,f (g a)=a) (ht:P.underlying t=some (.array n e))
  (h:RdFs P ((List.range n).map fun i=>(e,i*P.cellsOf e)) 0 (P.cellsOf t) d ok):Rd P t (Kd.iso d f) (fun x=>ok (f x)):=by
 intro H enc W base spare held fuel cs x hx
 obtain⟨xs,m,rfl,_,hl,hn,hi⟩:=DataW.trod_array ht hx
 obtain⟨a,ha,hk⟩:=h enc W base spare held m cs hl (fun i p hp=>by
  rw [List.getElem?_map] at hp
  obtain⟨j,hj,rfl⟩:=Option.map_eq_some_iff.1 hp
  obtain⟨hlt,hj⟩:=List.getElem?_eq_some_iff.1 hj
  simp at hj hlt
  subst hj
  have h1:=hi i hlt
  rw [List.getElem?_eq_getElem (by omega)] at h1
  exact⟨_,h1⟩)
 refine⟨g a,?_,by show ok (f (g a));rw [hg];exact hk⟩
 show d.K W (f (g a)) cs
 rw [hg]
 simpa using ha
end
end Go.Proofs.YtmddmbagehjdeaaX
end
section
namespace Go.Proofs.Ytmddmbagehjdeaa.Q
open Go Go.RowKit Go.Proofs.YtmddmbagehjdeaaW.PrintWords
theorem w64 {x:Int} (h : -9223372036854775808≤x) (h':x≤9223372036854775807):wrap64 x=x:=by unfold wrap64;omega
theorem Ev.succ {α:Type} {g:Nat→Option α} {r:α} (K:Nat) (h:∀ k,K≤k→g (k+1)=some r):Ev g r:=by
 refine⟨K+1,fun k hk=>?_⟩
 obtain⟨m,rfl⟩:∃ m,k=m+1:=⟨k - 1,by omega⟩
 exact h m (by omega)
theorem Ev.mk {α:Type} {g:Nat→Option α} {r:α} (K:Nat) (h:∀ k,K≤k→g k=some r):Ev g r:=⟨K,h⟩
theorem cs4 {x:Int} (h:(Lit.int .i64 x).wf=true) : -9223372036854775808≤x∧x≤9223372036854775807:=by
 simp [Lit.wf] at h
 have e1:IntKind.min .i64 = -9223372036854775808:=by decide
 rw [e1] at h
 exact h
theorem bB5 {α:Type} (l:List α) (i:Nat) (d:α) (h:i<l.length):l.getD i d ∈ l:=by
 rw [List.getD_eq_getElem?_getD,List.getElem?_eq_getElem h]
 exact List.getElem_mem h
theorem al2 {α:Type} (l:List α) (i:Nat) (d:α) (h:i<l.length):l.drop i=l.getD i d::l.drop (i+1):=by
 rw [List.drop_eq_getElem_cons h,List.getD_eq_getElem?_getD,List.getElem?_eq_getElem h]
 rfl
theorem ae5 {a b:Int} (h:0≤a):Int.tmod a b=a % b:=Int.tmod_eq_emod_of_nonneg h
theorem ah0 {a b:Int} (h:0≤a):Int.tdiv a b=a / b:=Int.tdiv_eq_ediv_of_nonneg h
end Go.Proofs.Ytmddmbagehjdeaa.Q
end
section
namespace Go.Proofs.Ytmddmbagehjdeaa.Q
open Go Go.RowKit Go.Proofs.YtmddmbagehjdeaaW.PrintWords Go.Proofs.YtmddmbagehjdeaaW.PrintMore
def bv:List Bool→Nat
 |[]=>0
 |b::l=>b.toNat*2 ^ l.length+bv l
theorem ag4:∀ a b:List Bool,bv (a++b)=bv a*2 ^ b.length+bv b
 |[],b=>by simp [bv]
 |x::a,b=>by
  rw [List.cons_append,bv,bv,ag4 a b,List.length_append,Nat.pow_add,Nat.add_mul,Nat.mul_assoc,Nat.add_assoc]
theorem ap9:∀ a:List Bool,bv a<2 ^ a.length
 |[]=>by simp [bv]
 |x::a=>by
  have h:=ap9 a
  have hx:x.toNat≤1:=by cases x<;>decide
  have:x.toNat*2 ^ a.length≤1*2 ^ a.length:=Nat.mul_le_mul_right _ hx
  rw [bv,List.length_cons,Nat.pow_succ]
  omega
def low (u:Nat):Nat→List Bool
 |0=>[]
 |n+1=>(u / 2 ^ n % 2 == 1)::low u n
theorem L6 (u:Nat):∀ n,(low u n).length=n
 |0=>rfl
 |n+1=>by rw [low,List.length_cons,L6 u n]
theorem aN4 (u:Nat):∀ n,bv (low u n)=u % 2 ^ n
 |0=>by simp [low,bv,Nat.mod_one]
 |n+1=>by
  rw [low,bv,L6,aN4 u n,Nat.pow_succ]
  have e:(u / 2 ^ n % 2 == 1).toNat=u / 2 ^ n % 2:=by
   rcases Nat.mod_two_eq_zero_or_one (u / 2 ^ n)with h|h<;>rw [h]<;>rfl
  rw [e,Nat.mod_mul]
  rw [Nat.mul_comm,Nat.add_comm]
theorem bV8 (a b n:Nat) (h:b<2 ^ n):∀ m,m≤n→low (a*2 ^ n+b) m=low b m
 |0,_=>rfl
 |m+1,hm=>by
  rw [low,low,bV8 a b n h m (by omega)]
  have e:2 ^ n=2 ^ m*(2*2 ^ (n - m - 1)):=by rw [←Nat.pow_succ',←Nat.pow_add];congr 1;omega
  have h1:(a*2 ^ n+b) / 2 ^ m % 2=b / 2 ^ m % 2:=by
   rw [e,show a*(2 ^ m*(2*2 ^ (n - m - 1)))=2 ^ m*(a*2 ^ (n - m - 1)*2)by
    rw [Nat.mul_comm 2 (2 ^ (n - m - 1)),←Nat.mul_assoc,←Nat.mul_assoc,Nat.mul_comm a (2 ^ m),Nat.mul_assoc (2 ^ m) a,Nat.mul_assoc (2 ^ m)]]
   rw [Nat.mul_add_div (Nat.two_pow_pos m)]
   omega
  rw [h1]
theorem bO6:∀ l:List Bool,low (bv l) l.length=l
 |[]=>rfl
 |x::l=>by
  have hb:=ap9 l
  rw [List.length_cons,low,bv,bV8 _ _ _ hb _ (Nat.le_refl _),bO6 l]
  congr 1
  rw [Nat.mul_comm,Nat.mul_add_div (Nat.two_pow_pos _),Nat.div_eq_of_lt hb]
  cases x<;>rfl
theorem aO3 (u m:Nat):∀ n,low u (n+m)=low (u / 2 ^ m) n++low u m
 |0=>by simp [low]
 |n+1=>by
  rw [show n+1+m=(n+m)+1 by omega,low,low,aO3 u m n,List.cons_append]
  congr 2
  rw [Nat.div_div_eq_div_mul,←Nat.pow_add,Nat.add_comm m n]
def s6 (m:List Bool):Nat:=bv m*2 ^ (8 - m.length)
def Of (l:List Bool):List Int:=(List.range ((l.length+7) / 8)).map fun j=>(s6 ((l.drop (8*j)).take 8):Int)
theorem n6 (l:List Bool):(Of l).length=(l.length+7) / 8:=by simp [Of]
theorem ct6 (l:List Bool) (j:Nat):(Of l).getD j 0=(s6 ((l.drop (8*j)).take 8):Int):=by
 rw [List.getD_eq_getElem?_getD]
 by_cases h:j<(l.length+7) / 8
 ·rw [Of,List.getElem?_map,List.getElem?_range h]
  rfl
 ·rw [List.getElem?_eq_none (by rw [n6];omega),List.drop_of_length_le (by omega)]
  rfl
theorem cq8 (l:List Bool) (j:Nat):rd (Of l) (j:Int)=(s6 ((l.drop (8*j)).take 8):Int):=by
 unfold rd
 rw [Int.toNat_natCast,ct6]
theorem aN0 (m:List Bool) (h:m.length≤8):s6 m<256:=by
 have hb:=ap9 m
 unfold s6
 have e:256=2 ^ m.length*2 ^ (8 - m.length):=by rw [←Nat.pow_add,show m.length+(8 - m.length)=8 by omega]
 rw [e]
 exact(Nat.mul_lt_mul_right (Nat.two_pow_pos _)).2 hb
theorem aK8 {x:Nat} (h:x≤8):x=0∨x=1∨x=2∨x=3∨x=4∨x=5∨x=6∨x=7∨x=8:=by omega
theorem bL9 (p q r:List Bool) (h:p.length+q.length+r.length≤8) (hq:1≤q.length) :
  (s6 (p++q++r)*2 ^ p.length % 256) / 2 ^ (8 - q.length)=bv q:=by
 have hb:=ap9 q
 have hc:bv r*2 ^ (8 - (p.length+q.length+r.length))<2 ^ (8 - p.length - q.length):=by
  have e:2 ^ (8 - p.length - q.length)=2 ^ r.length*2 ^ (8 - (p.length+q.length+r.length)):=by rw [←Nat.pow_add];congr 1;omega
  rw [e]
  exact(Nat.mul_lt_mul_right (Nat.two_pow_pos _)).2 (ap9 r)
 have hbyte:s6 (p++q++r)=bv p*2 ^ (8 - p.length)+bv q*2 ^ (8 - p.length - q.length)+bv r*2 ^ (8 - (p.length+q.length+r.length)):=by
  unfold s6
  rw [ag4,ag4,List.length_append,List.length_append,Nat.add_mul,Nat.add_mul,Nat.add_mul]
  congr 2
  ·rw [Nat.mul_assoc,Nat.mul_assoc,←Nat.pow_add,←Nat.pow_add];congr 2;omega
  ·rw [Nat.mul_assoc,←Nat.pow_add];congr 2;omega
 rw [hbyte]
 generalize bv p=a at *
 generalize bv q=b at *
 generalize bv r*2 ^ (8 - (p.length+q.length+r.length))=c at *
 generalize p.length=i at *
 generalize q.length=k at *
 have hik:i+k≤8:=by omega
 clear hbyte h
 rcases aK8 (show i≤8 by omega)with rfl|rfl|rfl|rfl|rfl|rfl|rfl|rfl|rfl <;>
 rcases aK8 (show k≤8 by omega)with rfl|rfl|rfl|rfl|rfl|rfl|rfl|rfl|rfl <;>
 first
  |(exfalso;omega)
  |(simp only [Nat.reducePow,Nat.reduceSub] at *;omega)
theorem bY7 (l:List Bool) (at_ k:Nat) (hk:1≤k) (hin:at_ % 8+k≤8) (h:at_+k≤l.length) :
  (s6 ((l.drop (8*(at_ / 8))).take 8)*2 ^ (at_ % 8) % 256) / 2 ^ (8 - k)=bv ((l.drop at_).take k):=by
 have e:(l.drop (8*(at_ / 8))).take 8=((l.drop (8*(at_ / 8))).take (at_ % 8))++((l.drop at_).take k)++((l.drop (at_+k)).take (8 - at_ % 8 - k)):=by
  have e1:l.drop at_=(l.drop (8*(at_ / 8))).drop (at_ % 8):=by rw [List.drop_drop];congr 1;omega
  have e2:l.drop (at_+k)=(l.drop (8*(at_ / 8))).drop (at_ % 8+k):=by rw [List.drop_drop];congr 1;omega
  rw [e1,e2]
  generalize l.drop (8*(at_ / 8))=m
  rw [List.append_assoc,←List.drop_drop,←List.take_add,←List.take_add]
  congr 1
  omega
 have l1:((l.drop (8*(at_ / 8))).take (at_ % 8)).length=at_ % 8:=by rw [List.length_take,List.length_drop];omega
 have l2:((l.drop at_).take k).length=k:=by rw [List.length_take,List.length_drop];omega
 have l3:((l.drop (at_+k)).take (8 - at_ % 8 - k)).length≤8 - at_ % 8 - k:=by rw [List.length_take];omega
 have:=bL9 ((l.drop (8*(at_ / 8))).take (at_ % 8)) ((l.drop at_).take k) ((l.drop (at_+k)).take (8 - at_ % 8 - k)) (by omega) (by omega)
 rw [←e,l1,l2] at this
 exact this
theorem cw5 (l p:List Bool) (h0:l.length % 8≠0) (h:l.length % 8+p.length≤8) :
  Of (l++p)=(Of l).set ((Of l).length - 1) ((s6 ((l.drop (8*(l.length / 8))).take 8):Int)+bv p*2 ^ (8 - l.length % 8 - p.length)):=by
 apply List.ext_getElem?
 intro j
 rw [List.getElem?_set,n6]
 by_cases hj:j<(l.length+7) / 8
 ·rw [Of,List.getElem?_map,List.getElem?_range (by rw [List.length_append];omega),Option.map_some]
  split
  ·rename_i e
   rw [if_pos (by omega)]
   have ej:j=l.length / 8:=by omega
   subst ej
   have hl:(l.drop (8*(l.length / 8))).length=l.length % 8:=by rw [List.length_drop];omega
   have t1:(l.drop (8*(l.length / 8))).take 8=l.drop (8*(l.length / 8)):=List.take_of_length_le (by omega)
   rw [List.drop_append_of_le_length (by omega),List.take_of_length_le (by rw [List.length_append];omega),t1]
   unfold s6
   rw [ag4,List.length_append,hl,Nat.add_mul,Nat.mul_assoc,←Nat.pow_add,show p.length+(8 - (l.length % 8+p.length))=8 - l.length % 8 by omega,show 8 - (l.length % 8+p.length)=8 - l.length % 8 - p.length by omega]
   simp
  ·rename_i e
   rw [Of,List.getElem?_map,List.getElem?_range hj,Option.map_some]
   rw [List.drop_append_of_le_length (by omega),List.take_append_of_le_length (by rw [List.length_drop];omega)]
 ·rw [List.getElem?_eq_none (by rw [n6,List.length_append];omega),if_neg (by omega),List.getElem?_eq_none (by rw [n6];omega)]
theorem cI2 (l p:List Bool) (h0:l.length % 8=0) (h:p.length≤8) (hp:1≤p.length):Of (l++p)=Of l++[(s6 p:Int)]:=by
 apply List.ext_getElem?
 intro j
 by_cases hj:j<(l.length+7) / 8
 ·rw [List.getElem?_append_left (by rw [n6];exact hj),Of,Of,List.getElem?_map,List.getElem?_range (by rw [List.length_append];omega),List.getElem?_map,List.getElem?_range hj,Option.map_some,Option.map_some]
  rw [List.drop_append_of_le_length (by omega),List.take_append_of_le_length (by rw [List.length_drop];omega)]
 ·rw [List.getElem?_append_right (by rw [n6];omega),n6]
  by_cases hj2:j=l.length / 8
  ·subst hj2
   rw [Of,List.getElem?_map,List.getElem?_range (by rw [List.length_append];omega),Option.map_some,show l.length / 8 - (l.length+7) / 8=0 by omega]
   rw [show 8*(l.length / 8)=l.length by omega,List.drop_left,List.take_of_length_le h]
   rfl
  ·rw [List.getElem?_eq_none (by rw [n6,List.length_append];omega),List.getElem?_eq_none (by rw [List.length_singleton];omega)]
theorem aP8 (l:List Bool) (h0:l.length % 8≠0):s6 ((l.drop (8*(l.length / 8))).take 8) % 2 ^ (8 - l.length % 8)=0:=by
 have hl:(l.drop (8*(l.length / 8))).length=l.length % 8:=by rw [List.length_drop];omega
 rw [List.take_of_length_le (by omega)]
 unfold s6
 rw [hl]
 exact Nat.mul_mod_left _ _
end Go.Proofs.Ytmddmbagehjdeaa.Q
end
section
namespace Go.Proofs.Ytmddmbagehjdeaa.Q
open Go Go.RowKit Go.Proofs.Ytmddmbagehjdeaa.G Go.Proofs.YtmddmbagehjdeaaW.PrintWords Go.Proofs.YtmddmbagehjdeaaW.PrintLast Go.Proofs.YtmddmbagehjdeaaW.PrintMore
theorem cn4:IntKind.bits .u8=8:=rfl
theorem bp9:IntKind.bits .u64=64:=rfl
theorem ak7 (n:Int) (h0:0≤n) (h1:n<2 ^ 64):IntKind.u64.wrap n=n:=by
 simp [IntKind.wrap,IntKind.bits,IntKind.signed]
 omega
theorem cg1 (a b:Nat):mn (a:Int) (b:Int)=((min a b:Nat):Int):=by
 unfold mn
 rcases Nat.lt_or_ge b a with h|h
 ·rw [if_pos (by omega),Nat.min_eq_right (by omega)]
 ·rw [if_neg (by omega),Nat.min_eq_left h]
theorem aI6 (kd:IntKind) (x y:Nat) (hy:y≤kd.bits):shr kd (x:Int) (y:Int)=((x / 2 ^ y:Nat):Int):=by
 unfold shr
 rw [Int.toNat_natCast,Nat.min_eq_left hy]
 simp
theorem az7 (x y:Nat) (hy:y≤8):shl .u8 (x:Int) (y:Int)=((x*2 ^ y % 256:Nat):Int):=by
 unfold shl
 rw [Int.toNat_natCast,Nat.min_eq_left (by rw [cn4];exact hy),IntKind.wrap_u8]
 simp
theorem cd1 (x y:Nat) (hy:y≤64) (h:x*2 ^ y<2 ^ 64):shl .u64 (x:Int) (y:Int)=((x*2 ^ y:Nat):Int):=by
 unfold shl
 rw [Int.toNat_natCast,Nat.min_eq_left (by rw [bp9];exact hy),show((x:Int)*2 ^ y)=((x*2 ^ y:Nat):Int)by simp,ak7 _ (Int.natCast_nonneg _) (by exact_mod_cast h)]
theorem cf0 (u n k i:Nat) (hk:1≤k) (hkn:k≤n) (hn:n≤64) (hik:i+k≤8) :
  shr .u8 (shl .u8 ((shr .u64 (u:Int) ((n - k:Nat):Int)) % 256) ((8 - k:Nat):Int)) (i:Int)=((bv (low (u / 2 ^ (n - k)) k)*2 ^ (8 - i - k):Nat):Int):=by
 rw [aI6 .u64 u (n - k) (by rw [bp9];omega),show(((u / 2 ^ (n - k):Nat):Int) % 256)=((u / 2 ^ (n - k) % 256:Nat):Int)by simp,az7 _ _ (by omega),aI6 .u8 _ _ (by rw [cn4];omega),aN4]
 congr 1
 generalize u / 2 ^ (n - k)=q
 clear hkn hn
 rcases aK8 (show i≤8 by omega)with rfl|rfl|rfl|rfl|rfl|rfl|rfl|rfl|rfl <;>
 rcases aK8 (show k≤8 by omega)with rfl|rfl|rfl|rfl|rfl|rfl|rfl|rfl|rfl <;>
 first
  |(exfalso;omega)
  |(simp only [Nat.reducePow,Nat.reduceSub] at *;omega)
theorem ch6 (x y:Nat) (i:Nat) (hx:x % 2 ^ i=0) (hx1:x<256) (hy:y<2 ^ i) (hy1:y<256):bits .or .u8 (x:Int) (y:Int)=((x+y:Nat):Int):=by
 have h:=bits_join .u8 8 (by decide) (fun n h0 h1=>wraps_u8 n h0 h1) i (x:Int) (y:Int) (Int.natCast_nonneg _) (by exact_mod_cast hx) (by exact_mod_cast hx1) (Int.natCast_nonneg _) (by exact_mod_cast hy) (by exact_mod_cast hy1)
 rw [h]
 simp
theorem bw5 (q k i:Nat) (hik:i+k≤8):bv (low q k)*2 ^ (8 - i - k)<2 ^ (8 - i):=by
 have h:=ap9 (low q k)
 rw [L6] at h
 have e:2 ^ (8 - i)=2 ^ k*2 ^ (8 - i - k):=by rw [←Nat.pow_add];congr 1;omega
 rw [e]
 exact(Nat.mul_lt_mul_right (Nat.two_pow_pos _)).2 h
theorem cg3 (u:Nat) (hu:u<2 ^ 64) (d:Nat):∀ (n:Nat) (l:List Bool),n≤d→n≤64→l.length+n≤1000000 →
  (∃ K,∀ k,K≤k→q26.l0 k (u:Int) (n:Int) (Of l) (l.length:Int)=some ((Of (l++low u n),((l.length+n:Nat):Int)))):=by
 induction d with
 |zero =>
  intro n l hn _ _
  obtain rfl:n=0:=by omega
  refine Ev.succ 0 fun k _=>?_
  rw [q26.l0,if_neg (by omega)]
  simp [low]
 |succ d ih =>
  intro n l hn h64 hl
  rcases Nat.eq_zero_or_pos n with rfl|hpos
  ·refine Ev.succ 0 fun k _=>?_
   rw [q26.l0,if_neg (by omega)]
   simp [low]
  obtain⟨i,hi⟩:∃ i,i=l.length % 8:=⟨_,rfl⟩
  obtain⟨k,hk⟩:∃ k,k=min n (8 - i):=⟨_,rfl⟩
  have hi8:i<8:=by omega
  have hk1:1≤k:=by omega
  have hkn:k≤n:=by omega
  have hik:i+k≤8:=by omega
  have hlow:low u n=low (u / 2 ^ (n - k)) k++low u (n - k):=by
   have:=aO3 u (n - k) k
   rwa [show k+(n - k)=n by omega] at this
  obtain⟨p,hp⟩:∃ p,p=low (u / 2 ^ (n - k)) k:=⟨_,rfl⟩
  have hpl:p.length=k:=by rw [hp,L6]
  obtain⟨K,hK⟩:=ih (n - k) (l++p) (by omega) (by omega) (by rw [List.length_append,hpl];omega)
  rw [List.append_assoc,hp,←hlow,←hp,List.length_append,hpl,show l.length+k+(n - k)=l.length+n by omega] at hK
  refine Ev.succ K fun k0 hk0=>?_
  have hpc:=cf0 u n k i hk1 hkn h64 hik
  rw [←hp] at hpc
  have hlt:bv p*2 ^ (8 - i - k)<2 ^ (8 - i):=by rw [hp];exact bw5 _ _ _ hik
  have ct9:bv p*2 ^ (8 - i - k)<256:=Nat.lt_of_lt_of_le hlt (Nat.le_trans (Nat.pow_le_pow_right (show 0<2 by decide) (Nat.sub_le 8 i)) (by decide:(2:Nat) ^ 8≤256))
  have eOr0:=ch6 0 (bv p*2 ^ (8 - i - k)) 8 (by decide) (by decide) ct9 ct9
  have hbb:=aN0 ((l.drop (8*(l.length / 8))).take 8) (by rw [List.length_take];exact Nat.min_le_left _ _)
  have eOr1:l.length % 8≠0→bits .or .u8 ((s6 ((l.drop (8*(l.length / 8))).take 8):Nat):Int) ((bv p*2 ^ (8 - i - k):Nat):Int)=((s6 ((l.drop (8*(l.length / 8))).take 8)+bv p*2 ^ (8 - i - k):Nat):Int):=fun hz=>by
   have hbl:=aP8 l hz
   rw [←hi] at hbl
   exact ch6 _ _ _ hbl hbb hlt ct9
  clear hlt ct9 hbb
  have e0:q5 (Int.tmod (l.length:Int) 8=(i:Int)):=⟨by rw [ae5 (Int.natCast_nonneg _),hi];simp⟩
  have e1:q5 (wrap64 (8 - (i:Int))=((8 - i:Nat):Int)):=⟨by rw [w64]<;>omega⟩
  have e2:q5 (mn (n:Int) ((8 - i:Nat):Int)=(k:Int)):=⟨by rw [cg1,hk]⟩
  have e3:q5 (wrap64 ((n:Int) - (k:Int))=((n - k:Nat):Int)):=⟨by rw [w64]<;>omega⟩
  have e4:q5 (wrap64 (8 - (k:Int))=((8 - k:Nat):Int)):=⟨by rw [w64]<;>omega⟩
  have e5:q5 (wrap64 ((l.length:Int)+(k:Int))=((l.length+k:Nat):Int)):=⟨by rw [w64]<;>omega⟩
  have hOl:=n6 l
  have c1:(n:Int)>0:=by omega
  have c2:(0:Int)≤((n - k:Nat):Int):=Int.natCast_nonneg _
  have c3:(0:Int)≤((8 - k:Nat):Int):=Int.natCast_nonneg _
  have c4:(0:Int)≤(i:Int):=Int.natCast_nonneg _
  rw [q26.l0,e0.out,e1.out,e2.out,e3.out,e4.out,e5.out,if_pos c1]
  by_cases h0:i=0
  ·have hz:l.length % 8=0:=by omega
   have hyl:((Of l++[0]:List Int).length:Int)=((l.length / 8+1:Nat):Int):=by rw [List.length_append,hOl,List.length_singleton];congr 2;omega
   have e6:q5 (wrap64 (((Of l++[0]:List Int).length:Int) - 1)=((Of l).length:Int)):=⟨by rw [hyl,hOl,w64]<;>omega⟩
   have c5:(i:Int)=0:=by omega
   have c6:(Of l).length<140737488355328:=by rw [hOl];omega
   have c7:(0:Int)≤((Of l).length:Int):=Int.natCast_nonneg _
   have c8:((Of l).length:Int)<((Of l++[0]:List Int).length:Int):=by rw [hyl,hOl];omega
   have e7:rd (Of l++[0]:List Int) ((Of l).length:Int)=((0:Nat):Int):=by simp [rd]
   have e8:(Of l++[0]:List Int).set ((Of l).length:Int).toNat (bits .or .u8 (rd (Of l++[0]:List Int) ((Of l).length:Int)) (shr .u8 (shl .u8 ((shr .u64 (u:Int) ((n - k:Nat):Int)) % 256) ((8 - k:Nat):Int)) (i:Int)))=Of (l++p):=by
    rw [e7,hpc,eOr0,cI2 l p hz (by omega) (by omega),Int.toNat_natCast,List.set_append_right _ _ (Nat.le_refl _)]
    unfold s6
    rw [hpl,h0]
    simp
   rw [if_pos c5,if_pos c6,Option.bind_some,e6.out,if_pos c2,if_pos c7,if_pos c8,if_pos c3,if_pos c4,e8]
   exact hK k0 hk0
  ·have hz:l.length % 8≠0:=by omega
   have e6:q5 (wrap64 (((Of l).length:Int) - 1)=((l.length / 8:Nat):Int)):=⟨by rw [hOl,w64]<;>omega⟩
   have c5:¬(i:Int)=0:=by omega
   have c7:(0:Int)≤((l.length / 8:Nat):Int):=Int.natCast_nonneg _
   have c8:((l.length / 8:Nat):Int)<((Of l).length:Int):=by rw [hOl];omega
   have e8:(Of l).set ((l.length / 8:Nat):Int).toNat (bits .or .u8 (rd (Of l) ((l.length / 8:Nat):Int)) (shr .u8 (shl .u8 ((shr .u64 (u:Int) ((n - k:Nat):Int)) % 256) ((8 - k:Nat):Int)) (i:Int)))=Of (l++p):=by
    rw [cq8,hpc,eOr1 hz,cw5 l p hz (by omega),Int.toNat_natCast,hOl,hpl,←hi]
    congr 1
    omega
   rw [if_neg c5,e6.out,if_pos c2,if_pos c7,if_pos c8,if_pos c3,if_pos c4,e8]
   exact hK k0 hk0
theorem bI2 (u:Nat) (hu:u<2 ^ 64) (n:Nat) (l:List Bool) (hn:n≤64) (hl:l.length+n≤1000000) :
  (∃ K,∀ k,K≤k→q26.f k (Of l) (l.length:Int) (u:Int) (n:Int)=some ((Of (l++low u n),((l.length+n:Nat):Int)))):=cg3 u hu n n l (Nat.le_refl _) hn hl
theorem co2 (l:List Bool) (hl:l.length≤1000000) (N:Int) (d:Nat):∀ (n at_ acc:Nat),n≤d→n≤64→at_+n≤l.length→acc<2 ^ (64 - n) →
  (∃ K,∀ k,K≤k→q48.l0 k (at_:Int) (n:Int) (acc:Int) (Of l) N=some (((acc*2 ^ n+bv ((l.drop at_).take n):Nat):Int))):=by
 induction d with
 |zero =>
  intro n at_ acc hn _ _ _
  obtain rfl:n=0:=by omega
  refine Ev.succ 0 fun k _=>?_
  rw [q48.l0,if_neg (by omega)]
  simp [bv]
 |succ d ih =>
  intro n at_ acc hn h64 hat hacc
  rcases Nat.eq_zero_or_pos n with rfl|hpos
  ·refine Ev.succ 0 fun k _=>?_
   rw [q48.l0,if_neg (by omega)]
   simp [bv]
  obtain⟨i,hi⟩:∃ i,i=at_ % 8:=⟨_,rfl⟩
  obtain⟨k,hk⟩:∃ k,k=min n (8 - i):=⟨_,rfl⟩
  have hi8:i<8:=by omega
  have hk1:1≤k:=by omega
  have hkn:k≤n:=by omega
  have hik:i+k≤8:=by omega
  have hpc:=bY7 l at_ k hk1 (by omega) (by omega)
  have hq:=ap9 ((l.drop at_).take k)
  have hql:((l.drop at_).take k).length=k:=by rw [List.length_take,List.length_drop];omega
  rw [hql] at hq
  have hacck:acc*2 ^ k<2 ^ (64 - (n - k)):=by
   have e:2 ^ (64 - (n - k))=2 ^ (64 - n)*2 ^ k:=by rw [←Nat.pow_add];congr 1;omega
   rw [e]
   exact(Nat.mul_lt_mul_right (Nat.two_pow_pos _)).2 hacc
  have hsum:acc*2 ^ k+bv ((l.drop at_).take k)<2 ^ (64 - (n - k)):=by
   have e:2 ^ (64 - (n - k))=2 ^ (64 - n)*2 ^ k:=by rw [←Nat.pow_add];congr 1;omega
   have h1:(acc+1)*2 ^ k≤2 ^ (64 - n)*2 ^ k:=Nat.mul_le_mul_right _ hacc
   rw [Nat.add_mul,Nat.one_mul] at h1
   omega
  have hp64:2 ^ (64 - (n - k))≤2 ^ 64:=Nat.pow_le_pow_right (by decide) (by omega)
  obtain⟨K,hK⟩:=ih (n - k) (at_+k) (acc*2 ^ k+bv ((l.drop at_).take k)) (by omega) (by omega) (by omega) hsum
  have efin:(acc*2 ^ k+bv ((l.drop at_).take k))*2 ^ (n - k)+bv ((l.drop (at_+k)).take (n - k))=acc*2 ^ n+bv ((l.drop at_).take n):=by
   have e:(l.drop at_).take n=(l.drop at_).take k++(l.drop (at_+k)).take (n - k):=by
    rw [←List.drop_drop,←List.take_add]
    congr 1
    omega
   have hl2:((l.drop (at_+k)).take (n - k)).length=n - k:=by rw [List.length_take,List.length_drop];omega
   rw [e,ag4,hl2,Nat.add_mul,Nat.mul_assoc,←Nat.pow_add,show k+(n - k)=n by omega,Nat.add_assoc]
  rw [efin] at hK
  have cL1:acc*2 ^ k<2 ^ 64:=Nat.lt_of_lt_of_le hacck hp64
  have hb64:bv ((l.drop at_).take k)<2 ^ 64:=Nat.lt_of_lt_of_le (Nat.lt_of_le_of_lt (Nat.le_add_left _ _) hsum) hp64
  have e7:bits .or .u64 ((acc*2 ^ k:Nat):Int) ((bv ((l.drop at_).take k):Nat):Int)=((acc*2 ^ k+bv ((l.drop at_).take k):Nat):Int):=by
   have h:=bits_join .u64 64 (by decide) ak7 k ((acc*2 ^ k:Nat):Int) ((bv ((l.drop at_).take k):Nat):Int) (Int.natCast_nonneg _) (by exact_mod_cast Nat.mul_mod_left _ _) (by exact_mod_cast cL1) (Int.natCast_nonneg _) (by exact_mod_cast hq) (by exact_mod_cast hb64)
   rw [h]
   push_cast
   rfl
  have e8:=cd1 acc k (Nat.le_trans hkn h64) cL1
  have e9:=ak7 ((bv ((l.drop at_).take k):Nat):Int) (Int.natCast_nonneg _) (by exact_mod_cast hb64)
  have e6:shr .u8 (shl .u8 (rd (Of l) ((at_ / 8:Nat):Int)) (i:Int)) ((8 - k:Nat):Int)=((bv ((l.drop at_).take k):Nat):Int):=by
   rw [cq8,az7 _ _ (Nat.le_of_lt hi8),aI6 .u8 _ _ (show 8 - k≤8 from Nat.sub_le _ _),hi,hpc]
  clear cL1 hb64 hacck hsum hp64 hq hacc efin
  refine Ev.succ K fun k0 hk0=>?_
  have e0:q5 (Int.tmod (at_:Int) 8=(i:Int)):=⟨by rw [ae5 (Int.natCast_nonneg _),hi];simp⟩
  have e00:q5 (wrap64 (Int.tdiv (at_:Int) 8)=((at_ / 8:Nat):Int)):=⟨by rw [ah0 (Int.natCast_nonneg _),w64]<;>omega⟩
  have e1:q5 (wrap64 (8 - (i:Int))=((8 - i:Nat):Int)):=⟨by rw [w64]<;>omega⟩
  have e2:q5 (mn (n:Int) ((8 - i:Nat):Int)=(k:Int)):=⟨by rw [cg1,hk]⟩
  have e3:q5 (wrap64 ((n:Int) - (k:Int))=((n - k:Nat):Int)):=⟨by rw [w64]<;>omega⟩
  have e4:q5 (wrap64 (8 - (k:Int))=((8 - k:Nat):Int)):=⟨by rw [w64]<;>omega⟩
  have e5:q5 (wrap64 ((at_:Int)+(k:Int))=((at_+k:Nat):Int)):=⟨by rw [w64]<;>omega⟩
  have hOl:=n6 l
  have c1:(n:Int)>0:=by omega
  have c2:(0:Int)≤((at_ / 8:Nat):Int):=by omega
  have c3:((at_ / 8:Nat):Int)<((Of l).length:Int):=by rw [hOl];omega
  have c4:(0:Int)≤(i:Int):=by omega
  have c5:(0:Int)≤((8 - k:Nat):Int):=by omega
  have c6:(0:Int)≤(k:Int):=by omega
  rw [q48.l0,e0.out,e00.out,e1.out,e2.out,e3.out,e4.out,e5.out,if_pos c1,if_pos c2,if_pos c3,if_pos c4,if_pos c5,if_pos c6,e6,e8,e9,e7]
  exact hK k0 hk0
theorem cK8 (l:List Bool) (hl:l.length≤1000000) (N:Int) (n at_:Nat) (hn:n≤64) (h:at_+n≤l.length) :
  (∃ K,∀ k,K≤k→q48.f k (Of l) N (at_:Int) (n:Int)=some (((bv ((l.drop at_).take n):Nat):Int))):=by
 obtain⟨K,hK⟩:=co2 l hl N n n at_ 0 (Nat.le_refl _) hn h (Nat.two_pow_pos _)
 rw [Nat.zero_mul,Nat.zero_add] at hK
 exact⟨K,hK⟩
end Go.Proofs.Ytmddmbagehjdeaa.Q
end
section
namespace Go.Proofs.Ytmddmbagehjdeaa.Q
open Go Go.RowKit Go.Proofs.Ytmddmbagehjdeaa.G Go.Proofs.YtmddmbagehjdeaaW.PrintWords Go.Proofs.YtmddmbagehjdeaaW.PrintLast Go.Proofs.YtmddmbagehjdeaaW.PrintMore
theorem W6 (n:Int):IntKind.u64.wrap n=n % 18446744073709551616:=by simp [IntKind.wrap,IntKind.bits,IntKind.signed]
theorem bt2 (k:IntKind) (j:Nat) (hj:j≤k.bits) (hk:∀ n:Int,0≤n→n<2 ^ j→k.wrap n=n) (a b:Nat) (ha:a<2 ^ j) (hb:b<2 ^ j):bits .xor k a b=((a ^^^ b:Nat):Int):=by
 have hp:2 ^ j≤2 ^ k.bits:=Nat.pow_le_pow_right (by decide) hj
 have ha':a % 2 ^ k.bits=a:=Nat.mod_eq_of_lt (Nat.lt_of_lt_of_le ha hp)
 have hb':b % 2 ^ k.bits=b:=Nat.mod_eq_of_lt (Nat.lt_of_lt_of_le hb hp)
 simp only [bits,BitVec.ofInt_natCast,BitVec.toNat_xor,BitVec.toNat_ofNat,ha',hb']
 exact hk _ (Int.natCast_nonneg _) (by exact_mod_cast Nat.xor_lt_two_pow ha hb)
theorem aJ7:(2:Nat) ^ 64=18446744073709551616:=by decide
theorem bo3 (x:Nat) (h:x<18446744073709551616):x ^^^ 18446744073709551615=18446744073709551615 - x:=by
 have h1:(BitVec.ofNat 64 x ^^^ BitVec.allOnes 64).toNat=x ^^^ 18446744073709551615:=by
  rw [BitVec.toNat_xor,BitVec.toNat_ofNat,Nat.mod_eq_of_lt (by rw [aJ7];exact h),BitVec.toNat_allOnes]
 rw [←h1,BitVec.xor_allOnes,BitVec.toNat_not,BitVec.toNat_ofNat,Nat.mod_eq_of_lt (by rw [aJ7];exact h)]
theorem xor_zero (x:Nat) (h:x<18446744073709551616):bits .xor .u64 (x:Int) 0=(x:Int):=by
 have:=bt2 .u64 64 (by decide) ak7 x 0 (by rw [aJ7];exact h) (by decide)
 rw [Nat.xor_zero] at this
 exact this
theorem bF6 (x:Nat) (h:x<18446744073709551616):bits .xor .u64 (x:Int) 18446744073709551615=((18446744073709551615 - x:Nat):Int):=by
 have:=bt2 .u64 64 (by decide) ak7 x 18446744073709551615 (by rw [aJ7];exact h) (by decide)
 rw [bo3 x h] at this
 exact this
theorem cw2 (x:Nat) (h:x<18446744073709551616):bits .and .u64 (x:Int) 1=((x % 2:Nat):Int):=by
 have:=(bits_nat .u64 64 (by decide) ak7 x 1 (by rw [aJ7];exact h) (by decide)).1
 rw [Nat.and_one_is_mod] at this
 exact this
def M5 (n:Int):Nat:=if 0≤n then(2*n).toNat else(-2*n - 1).toNat
def Q8 (u:Nat):Int:=if u % 2=0 then((u / 2:Nat):Int)else -1 - ((u / 2:Nat):Int)
def I64 (n:Int):Prop := -9223372036854775808≤n∧n≤9223372036854775807
theorem aq8 {n:Int} (h:I64 n):M5 n<18446744073709551616:=by
 unfold I64 at h
 unfold M5
 split<;>omega
theorem bB6 (n:Int):Q8 (M5 n)=n:=by
 unfold M5 Q8
 split<;>split<;>omega
theorem aQ8 (u:Nat):M5 (Q8 u)=u:=by
 unfold M5 Q8
 split<;>split<;>omega
theorem aP7 (u:Nat) (h:u<18446744073709551616):I64 (Q8 u):=by
 unfold I64 Q8
 split<;>omega
theorem bV7 (n:Int) (h:I64 n):q70.f n=some (M5 n:Int):=by
 unfold q70.f I64 at *
 congr 1
 rw [W6,W6,W6]
 by_cases h0:0≤n
 ·have e1:n / 9223372036854775808 % 18446744073709551616=0:=by omega
  have e2:n % 18446744073709551616*2 % 18446744073709551616=((M5 n:Nat):Int):=by unfold M5;rw [if_pos h0];omega
  rw [e1,e2,xor_zero _ (aq8 h)]
 ·have e1:n / 9223372036854775808 % 18446744073709551616=18446744073709551615:=by omega
  have e2:n % 18446744073709551616*2 % 18446744073709551616=(((2*n+18446744073709551616).toNat:Nat):Int):=by omega
  rw [e1,e2,bF6 _ (by omega)]
  unfold M5
  rw [if_neg h0]
  omega
theorem cb9 (u:Nat) (h:u<18446744073709551616):wrap64 (bits .xor .u64 ((u:Int) / 2) (IntKind.u64.wrap (-(bits .and .u64 (u:Int) 1))))=Q8 u:=by
 rw [cw2 u h,W6,show((u:Int) / 2)=((u / 2:Nat):Int)by simp]
 unfold Q8
 by_cases h0:u % 2=0
 ·rw [if_pos h0,h0,show(-((0:Nat):Int)) % 18446744073709551616=0 by decide,xor_zero _ (by omega),w64]<;>omega
 ·rw [if_neg h0,show u % 2=1 by omega,show(-((1:Nat):Int)) % 18446744073709551616=18446744073709551615 by decide,bF6 _ (by omega)]
  unfold wrap64
  omega
def cls (u:Nat):Nat:=if u=0 then 0 else if u<128 then 1 else if u<4096 then 2 else if u<1048576 then 3 else 4
def wd (c:Nat):Nat:=if c=0 then 0 else if c=1 then 7 else if c=2 then 12 else if c=3 then 20 else 64
theorem aF7 (u:Nat):cls u≤4:=by unfold cls;(repeat' split)<;>omega
theorem four {c:Nat} (h:c≤4):c=0∨c=1∨c=2∨c=3∨c=4:=by omega
theorem aA2 (c:Nat) (h:c≤4):q61.f (c:Int)=some (wd c:Int):=by
 rcases four h with rfl|rfl|rfl|rfl|rfl<;>rfl
theorem cb5 (u w:Nat) (hu:u<18446744073709551616):w<Lib.bitLen u ↔ 2 ^ w≤u:=by
 by_cases hw:w≤64
 ·constructor
  ·intro h
   rcases Nat.lt_or_ge u (2 ^ w)with h1|h1
   ·have:=Lib.bitLen_le u w hw h1
    omega
   ·exact h1
  ·intro h
   have h1:=Lib.bitLen_shift w u h (by simpa using hu)
   have h2:u / 2 ^ w≠0:=by
    have:=Nat.div_pos h (Nat.two_pow_pos w)
    omega
   have h3:=Lib.bitLen_half (u / 2 ^ w) h2 (Nat.lt_of_le_of_lt (Nat.div_le_self _ _) (by simpa using hu))
   omega
 ·constructor
  ·intro h
   have:=Lib.bitLen_le u 64 (Nat.le_refl _) (by simpa using hu)
   omega
  ·intro h
   have h1:2 ^ 64≤2 ^ w:=Nat.pow_le_pow_right (by decide) (by omega)
   have h2:(2:Nat) ^ 64=18446744073709551616:=by decide
   omega
theorem cq7 (u:Nat) (hu:u<18446744073709551616):q72.f (u:Int)=some (Lib.bitLen u:Int):=by
 unfold q72.f
 rw [if_pos (by omega),Int.toNat_natCast]
theorem ar6 (n:Int) (h:I64 n) (c:Nat) (hc:c<4) (K:Nat) (r:Option Int) (hr:∀ k,K≤k→(if 2 ^ wd c≤M5 n then q38.l0 k n ((c+1:Nat):Int)else some (c:Int))=r):∀ k,K+1≤k→q38.l0 k n (c:Int)=r:=by
 intro k hk
 obtain⟨k,rfl⟩:∃ m,k=m+1:=⟨k - 1,by omega⟩
 rw [q38.l0,if_pos (by omega),bV7 n h,Option.bind_some,cq7 _ (aq8 h),Option.bind_some,aA2 c (by omega),Option.bind_some]
 have e1:q5 (wrap64 ((c:Int)+1)=((c+1:Nat):Int)):=⟨by rw [w64]<;>omega⟩
 have hb:=cb5 (M5 n) (wd c) (aq8 h)
 rw [←hr k (by omega),e1.out]
 by_cases h1:2 ^ wd c≤M5 n
 ·rw [if_pos h1,if_pos (by have:=hb.2 h1;omega)]
 ·rw [if_neg h1,if_neg (by intro h2;exact h1 (hb.1 (by omega)))]
theorem aY5 (n:Int) (h:I64 n):(∃ K,∀ k,K≤k→q38.f k n=some (((cls (M5 n):Nat):Int))):=by
 refine⟨5,fun k hk=>?_⟩
 unfold q38.f
 have e0:(0:Int)=((0:Nat):Int):=rfl
 rw [e0]
 refine ar6 n h 0 (by decide) 4 _ (fun k hk=>?_) k hk
 have w0:2 ^ wd 0=1:=rfl
 have w1:2 ^ wd 1=128:=rfl
 have w2:2 ^ wd 2=4096:=rfl
 have w3:2 ^ wd 3=1048576:=rfl
 rw [w0]
 by_cases h0:1≤M5 n
 ·rw [if_pos h0]
  refine ar6 n h 1 (by decide) 3 _ (fun k hk=>?_) k hk
  rw [w1]
  by_cases h1:128≤M5 n
  ·rw [if_pos h1]
   refine ar6 n h 2 (by decide) 2 _ (fun k hk=>?_) k hk
   rw [w2]
   by_cases h2:4096≤M5 n
   ·rw [if_pos h2]
    refine ar6 n h 3 (by decide) 1 _ (fun k hk=>?_) k hk
    rw [w3]
    by_cases h3:1048576≤M5 n
    ·rw [if_pos h3]
     obtain⟨k,rfl⟩:∃ m,k=m+1:=⟨k - 1,by omega⟩
     rw [q38.l0,if_neg (by omega)]
     unfold cls
     rw [if_neg (by omega),if_neg (by omega),if_neg (by omega),if_neg (by omega)]
    ·rw [if_neg h3]
     unfold cls
     rw [if_neg (by omega),if_neg (by omega),if_neg (by omega),if_pos (by omega)]
   ·rw [if_neg h2]
    unfold cls
    rw [if_neg (by omega),if_neg (by omega),if_pos (by omega)]
  ·rw [if_neg h1]
   unfold cls
   rw [if_neg (by omega),if_pos (by omega)]
 ·rw [if_neg h0]
  unfold cls
  rw [if_pos (by omega)]
def ld (c:Nat):List Bool:=if c=4 then [true,true,true,true] else List.replicate c true++[false]
theorem bV3 (c:Nat) (h:c≤4):q69.f (c:Int)=some (((bv (ld c):Nat):Int),((ld c).length:Int)):=by
 rcases four h with rfl|rfl|rfl|rfl|rfl<;>decide +kernel
theorem bK8 (c:Nat) (h:c≤4):(ld c).length≤4∧1≤(ld c).length:=by rcases four h with rfl|rfl|rfl|rfl|rfl<;>decide
theorem aY9 (c:Nat):wd c≤64:=by unfold wd;(repeat' split)<;>omega
def G5 (n:Int):List Bool:=ld (cls (M5 n))++low (M5 n) (wd (cls (M5 n)))
theorem aP4 (n:Int):(G5 n).length=(ld (cls (M5 n))).length+wd (cls (M5 n)):=by rw [G5,List.length_append,L6]
theorem aq1 (n:Int):(G5 n).length≤68:=by
 have h1:=(bK8 (cls (M5 n)) (aF7 _)).1
 have h2:=aY9 (cls (M5 n))
 rw [aP4]
 omega
theorem cs7 (n:Int) (h:I64 n):(∃ K,∀ k,K≤k→q60.f k n=some (((G5 n).length:Int))):=by
 obtain⟨K,hK⟩:=aY5 n h
 have h1:=(bK8 (cls (M5 n)) (aF7 _)).1
 have h2:=aY9 (cls (M5 n))
 refine⟨K,fun k hk=>?_⟩
 unfold q60.f
 rw [hK k hk,Option.bind_some,bV3 _ (aF7 _),Option.bind_some]
 simp only
 have e1:wrap64 (((ld (cls (M5 n))).length:Int)+(wd (cls (M5 n)):Int))=((G5 n).length:Int):=by rw [aP4,w64]<;>omega
 rw [aA2 _ (aF7 _),Option.bind_some,e1]
theorem ax9 (l:List Bool) (hl:l.length≤131072):(∃ K,∀ k,K≤k→q25.f k (Of l) (l.length:Int)=some (0)):=by
 refine⟨1,fun k hk=>?_⟩
 obtain⟨k,rfl⟩:∃ m,k=m+1:=⟨k - 1,by omega⟩
 have hO:=n6 l
 have e1:q5 (wrap64 ((l.length:Int)+7)=((l.length+7:Nat):Int)):=⟨by rw [w64]<;>omega⟩
 have e2:q5 (wrap64 (((l.length+7:Nat):Int) / 8)=(((l.length+7) / 8:Nat):Int)):=⟨by rw [w64]<;>omega⟩
 have e3:Int.tmod (l.length:Int) 8=((l.length % 8:Nat):Int):=by rw [ae5 (Int.natCast_nonneg _)];simp
 unfold q25.f q71.f
 rw [if_neg (by omega),if_neg (by omega),Option.bind_some,e1.out,ah0 (Int.natCast_nonneg _),e2.out,hO,show(((((l.length+7) / 8:Nat):Int)) != ((((l.length+7) / 8:Nat):Int)))=false by simp,q25.j0,if_neg (by decide),e3]
 by_cases h0:l.length % 8=0
 ·rw [if_neg (by omega)]
 ·have e4:q5 (wrap64 (((Of l).length:Int) - 1)=((l.length / 8:Nat):Int)):=⟨by rw [hO,w64]<;>omega⟩
  have hz:shl .u8 (rd (Of l) ((l.length / 8:Nat):Int)) ((l.length % 8:Nat):Int)=0:=by
   have hbl:=aP8 l h0
   rw [cq8,az7 _ _ (by omega)]
   have hr:l.length % 8≤8:=by omega
   generalize s6 ((l.drop (8*(l.length / 8))).take 8)=b at *
   generalize l.length % 8=r at *
   clear e3
   rcases aK8 hr with rfl|rfl|rfl|rfl|rfl|rfl|rfl|rfl|rfl<;>(simp only [Nat.reducePow,Nat.reduceSub] at *;omega)
  rw [if_pos (by omega),e4.out,if_pos (by omega),if_pos (by omega),if_pos (by omega),if_pos hz]
end Go.Proofs.Ytmddmbagehjdeaa.Q
end
section
namespace Go.Proofs.Ytmddmbagehjdeaa.Q
open Go Go.RowKit Go.Proofs.Ytmddmbagehjdeaa.G Go.Proofs.YtmddmbagehjdeaaW.PrintWords Go.Proofs.YtmddmbagehjdeaaW.PrintLast Go.Proofs.YtmddmbagehjdeaaW.PrintMore
theorem bP3 (b:List Int) (N:Int) (h:b.length≤1000000):q64.f b N=some (b,N):=by
 unfold q64.f q59.f
 rw [if_pos (by omega)]
 rfl
theorem cL6 (c:Nat) (h:c≤4):low (bv (ld c)) (ld c).length=ld c:=bO6 _
theorem cn9 (c:Nat) (h:c≤4):bv (ld c)<18446744073709551616:=by rcases four h with rfl|rfl|rfl|rfl|rfl<;>decide
theorem bf7 (l:List Bool) (n:Int) (h:I64 n) (hl:l.length≤131072) (hfit:l.length+(G5 n).length≤131072) :
  (∃ K,∀ k,K≤k→q53.f k (Of l) (l.length:Int) n=some ((Of (l++G5 n),((l++G5 n).length:Int),0))):=by
 obtain⟨c,hc⟩:∃ c,c=cls (M5 n):=⟨_,rfl⟩
 have hc4:c≤4:=by rw [hc];exact aF7 _
 have h1:=bK8 c hc4
 have h2:=aY9 c
 have hcl:=aP4 n
 rw [←hc] at hcl
 obtain⟨K1,e1⟩:=ax9 l hl
 obtain⟨K2,e2⟩:=cs7 n h
 obtain⟨K3,e3⟩:=aY5 n h
 obtain⟨K4,e4⟩:=bI2 (bv (ld c)) (by rw [aJ7];exact cn9 c hc4) (ld c).length l (by omega) (by omega)
 obtain⟨K5,e5⟩:=bI2 (M5 n) (by rw [aJ7];exact aq8 h) (wd c) (l++ld c) h2 (by rw [List.length_append];omega)
 rw [cL6 c hc4] at e4
 rw [List.append_assoc,List.length_append] at e5
 have hco:ld c++low (M5 n) (wd c)=G5 n:=by rw [hc];rfl
 rw [hco] at e5
 refine⟨K1+K2+K3+K4+K5,fun k hk=>?_⟩
 have hO:=n6 l
 unfold q53.f
 have w1:q5 (wrap64 (131072 - (l.length:Int))=((131072 - l.length:Nat):Int)):=⟨by rw [w64]<;>omega⟩
 have c1:¬((G5 n).length:Int)>((131072 - l.length:Nat):Int):=by omega
 rw [e1 k (by omega),Option.bind_some,if_pos rfl,bP3 _ _ (by rw [hO];omega),Option.bind_some,e2 k (by omega),Option.bind_some]
 simp only
 rw [w1.out,if_neg c1,e3 k (by omega),Option.bind_some,←hc,bV3 c hc4,Option.bind_some]
 simp only
 rw [e4 k (by omega),Option.bind_some,bV7 n h,Option.bind_some,aA2 c hc4,Option.bind_some]
 simp only
 rw [e5 k (by omega),Option.bind_some]
 simp only [List.length_append,hcl,Nat.add_assoc]
theorem bX4 (l:List Bool) (hl:l.length≤131072):(∃ K,∀ k,K≤k→q58.f k (Of l) (l.length:Int)=some ((Of l,(l.length:Int),0))):=by
 obtain⟨K1,e1⟩:=ax9 l hl
 refine⟨K1,fun k hk=>?_⟩
 have hO:=n6 l
 unfold q58.f
 rw [e1 k hk,Option.bind_some,if_pos rfl,bP3 _ _ (by rw [hO];omega),Option.bind_some]
def am9 (l:List Bool) (at_:Nat) (n:Int):Int×Int×Int×Int :=
 if n<0∨64<n then(0,1,l.length,at_)else if((l.length - at_:Nat):Int)<n then(0,2,l.length,at_)else((bv ((l.drop at_).take n.toNat):Nat),0,l.length,((at_+n.toNat:Nat):Int))
theorem aU6 (l:List Bool) (hl:l.length≤1000000) (at_:Nat) (ha:at_≤l.length) (n:Int):(∃ K,∀ k,K≤k→q27.f k (Of l) (l.length:Int) (at_:Int) n=some (am9 l at_ n)):=by
 unfold am9
 by_cases h1:n<0
 ·refine⟨0,fun k _=>?_⟩
  unfold q27.f
  rw [if_pos h1,if_pos (.inl h1)]
 by_cases h2:64<n
 ·refine⟨0,fun k _=>?_⟩
  unfold q27.f
  rw [if_neg h1,if_pos h2,if_pos (.inr h2)]
 have w1:q5 (wrap64 ((l.length:Int) - (at_:Int))=((l.length - at_:Nat):Int)):=⟨by rw [w64]<;>omega⟩
 rw [if_neg (by rintro(h|h)<;>omega)]
 by_cases h3:((l.length - at_:Nat):Int)<n
 ·refine⟨0,fun k _=>?_⟩
  unfold q27.f q63.f
  rw [if_neg h1,if_neg h2,Option.bind_some]
  simp only
  rw [w1.out,if_pos h3,if_pos h3]
 rw [if_neg h3]
 obtain⟨m,rfl⟩:=Int.eq_ofNat_of_zero_le (show 0≤n by omega)
 rw [Int.toNat_natCast]
 have w2:q5 (wrap64 ((at_:Int)+(m:Int))=((at_+m:Nat):Int)):=⟨by rw [w64]<;>omega⟩
 obtain⟨K,hK⟩:=cK8 l hl (l.length:Int) m at_ (by omega) (by omega)
 refine⟨K,fun k hk=>?_⟩
 unfold q27.f q63.f
 rw [if_neg h1,if_neg h2,Option.bind_some]
 simp only
 rw [w1.out,if_neg h3]
 by_cases h4:(m:Int)=0
 ·obtain rfl:m=0:=by omega
  rw [if_pos h4]
  simp [bv]
 ·rw [if_neg h4,hK k hk,Option.bind_some,w2.out]
def rdc:Nat→Nat→List Bool→Option (Nat×List Bool)
 |0,c,r=>some (c,r)
 |f+1,c,[]=>none
 |f+1,c,false::r=>some (c,r)
 |f+1,c,true::r=>rdc f (c+1) r
def numb (r:List Bool):Option (Int×Nat) :=
 match rdc 4 0 r with
 |none=>none
 |some (c,q)=>if wd c≤q.length then(if cls (bv (q.take (wd c)))=c then some (Q8 (bv (q.take (wd c))),r.length - q.length+wd c)else none)else none
theorem aO0 {l:List Bool} {at_:Nat} {b:Bool} {r:List Bool} (h:l.drop at_=b::r):at_<l.length∧l.drop (at_+1)=r∧(l.drop at_).take 1=[b]:=by
 refine⟨?_,?_,?_⟩
 ·rcases Nat.lt_or_ge at_ l.length with h'|h'
  ·exact h'
  ·rw [List.drop_of_length_le h'] at h;cases h
 ·rw [←List.drop_drop,h];rfl
 ·rw [h];rfl
theorem db6 (l:List Bool) (at_:Nat) (b:Bool) (r:List Bool) (h:l.drop at_=b::r):am9 l at_ 1=((b.toNat:Int),0,(l.length:Int),((at_+1:Nat):Int)):=by
 obtain⟨h1,_,h3⟩:=aO0 h
 unfold am9
 rw [if_neg (by omega),if_neg (by omega),show(1:Int).toNat=1 from rfl,h3]
 simp [bv]
theorem bQ9 (l:List Bool) (at_:Nat) (h:l.drop at_=[]) (ha:at_≤l.length):am9 l at_ 1=(0,2,(l.length:Int),(at_:Int)):=by
 have h1:l.length≤at_:=by simpa using h
 unfold am9
 rw [if_neg (by omega),if_pos (by omega)]
theorem bv0 (l:List Bool) (hl:l.length≤1000000):∀ (f c at_:Nat),f+c=4→at_≤l.length →
  (∀ c' q,rdc f c (l.drop at_)=some (c',q)→∃ at',at_≤at'∧at'≤l.length∧l.drop at'=q∧c'≤4∧(∃ K,∀ k,K≤k→q23.l0 k (c:Int) (Of l) (l.length:Int) (at_:Int)=some (((c':Int),0,(l.length:Int),(at':Int))))) ∧
  (rdc f c (l.drop at_)=none→∃ c' at',(∃ K,∀ k,K≤k→q23.l0 k (c:Int) (Of l) (l.length:Int) (at_:Int)=some ((c',2,(l.length:Int),at'))))
 |0,c,at_,hf,ha=>by
  refine⟨fun c' q h=>?_,fun h=>by cases h⟩
  simp only [rdc,Option.some.injEq,Prod.mk.injEq] at h
  obtain⟨rfl,rfl⟩:=h
  refine⟨at_,Nat.le_refl _,ha,rfl,by omega,1,fun k hk=>?_⟩
  obtain⟨k,rfl⟩:∃ m,k=m+1:=⟨k - 1,by omega⟩
  rw [q23.l0,if_neg (by omega),show(4:Int)=(c:Int)by omega]
 |f+1,c,at_,hf,ha=>by
  obtain⟨KT,hT⟩:=aU6 l hl at_ ha 1
  rcases hd:l.drop at_ with _|⟨b,r⟩
  ·rw [bQ9 l at_ hd ha] at hT
   refine⟨fun c' q h=>(by simp [rdc] at h),fun _=>⟨(c:Int),(at_:Int),KT+1,fun k hk=>?_⟩⟩
   obtain⟨k,rfl⟩:∃ m,k=m+1:=⟨k - 1,by omega⟩
   rw [q23.l0,if_pos (by omega),hT k (by omega),Option.bind_some]
   simp only
   rw [if_neg (by decide)]
  ·obtain⟨h1,h2,h3⟩:=aO0 hd
   rw [db6 l at_ b r hd] at hT
   cases b with
   |false =>
    refine⟨fun c' q h=>?_,fun h=>(by simp [rdc] at h)⟩
    simp only [rdc,Option.some.injEq,Prod.mk.injEq] at h
    obtain⟨rfl,rfl⟩:=h
    refine⟨at_+1,by omega,by omega,h2,by omega,KT+1,fun k hk=>?_⟩
    obtain⟨k,rfl⟩:∃ m,k=m+1:=⟨k - 1,by omega⟩
    rw [q23.l0,if_pos (by omega),hT k (by omega),Option.bind_some]
    simp only
    rw [if_pos (by decide),if_pos (by decide)]
   |true =>
    obtain⟨i1,i2⟩:=bv0 l hl f (c+1) (at_+1) (by omega) (by omega)
    rw [h2] at i1 i2
    have w1:q5 (wrap64 ((c:Int)+1)=((c+1:Nat):Int)):=⟨by rw [w64]<;>omega⟩
    have step:∀ r,(∃ K,∀ k,K≤k→q23.l0 k ((c+1:Nat):Int) (Of l) (l.length:Int) ((at_+1:Nat):Int)=some (r))→(∃ K,∀ k,K≤k→q23.l0 k (c:Int) (Of l) (l.length:Int) (at_:Int)=some (r)):=by
     rintro r ⟨K,hK⟩
     refine⟨K+KT+1,fun k hk=>?_⟩
     obtain⟨k,rfl⟩:∃ m,k=m+1:=⟨k - 1,by omega⟩
     rw [q23.l0,if_pos (by omega),hT k (by omega),Option.bind_some]
     simp only
     rw [if_pos (by decide),if_neg (by decide),w1.out]
     exact hK k (by omega)
    refine⟨fun c' q h=>?_,fun h=>?_⟩
    ·obtain⟨at',g1,g2,g3,g4,g5⟩:=i1 c' q h
     exact⟨at',by omega,g2,g3,g4,step _ g5⟩
    ·obtain⟨c',at',g⟩:=i2 h
     exact⟨c',at',step _ g⟩
theorem bN6 {w:Nat} (h:w≤64):2 ^ w≤18446744073709551616:=by rw [←aJ7];exact Nat.pow_le_pow_right (by decide) h
def numR (l:List Bool) (at_:Nat):Int×Int×Int×Int :=
 match numb (l.drop at_)with
 |some (n,j)=>(n,0,l.length,((at_+j:Nat):Int))
 |none=>(0,2,l.length,at_)
theorem at7 (l:List Bool) (hl:l.length≤1000000) (at_:Nat) (ha:at_≤l.length):(∃ K,∀ k,K≤k→q19.f k (Of l) (l.length:Int) (at_:Int)=some (numR l at_)):=by
 obtain⟨i1,i2⟩:=bv0 l hl 4 0 at_ rfl ha
 unfold numR numb
 rcases hr:rdc 4 0 (l.drop at_)with _|⟨c,q⟩
 ·obtain⟨c',at',K,hK⟩:=i2 hr
  refine⟨K,fun k hk=>?_⟩
  unfold q19.f q65.f q23.f
  rw [Option.bind_some]
  have:=hK k hk
  simp only at this ⊢
  rw [show((0:Nat):Int)=0 from rfl] at this
  rw [this,Option.bind_some]
  simp only
  rw [if_neg (by decide)]
 ·obtain⟨at',g1,g2,rfl,g4,K,hK⟩:=i1 c q hr
  have hK':∀ k,K≤k→q23.f k (Of l) (l.length:Int) (at_:Int)=some ((c:Int),0,(l.length:Int),(at':Int)):=fun k hk=>hK k hk
  obtain⟨KT,hT⟩:=aU6 l hl at' g2 (wd c:Int)
  have hw:=aY9 c
  have hql:(l.drop at').length=l.length - at':=List.length_drop
  simp only
  by_cases h1:wd c≤(l.drop at').length
  ·rw [if_pos h1]
   have ht:am9 l at' (wd c:Int)=(((bv ((l.drop at').take (wd c)):Nat):Int),0,(l.length:Int),((at'+wd c:Nat):Int)):=by
    unfold am9
    rw [if_neg (by omega),if_neg (by rw [hql] at h1;omega),Int.toNat_natCast]
   rw [ht] at hT
   obtain⟨u,hu⟩:∃ u,u=bv ((l.drop at').take (wd c)):=⟨_,rfl⟩
   have hlt:u<18446744073709551616:=by
    have h2:=ap9 ((l.drop at').take (wd c))
    rw [←hu,List.length_take] at h2
    exact Nat.lt_of_lt_of_le h2 (bN6 (Nat.le_trans (Nat.min_le_left _ _) hw))
   rw [←hu] at hT ⊢
   obtain⟨KC,hC⟩:=aY5 (Q8 u) (aP7 u hlt)
   rw [aQ8] at hC
   have hun:=q5.mk (cb9 u hlt)
   refine⟨K+KT+KC+1,fun k hk=>?_⟩
   obtain⟨k,rfl⟩:∃ m,k=m+1:=⟨k - 1,by omega⟩
   unfold q19.f q65.f
   rw [Option.bind_some]
   simp only
   rw [hK' _ (by omega),Option.bind_some]
   simp only
   rw [if_pos trivial,aA2 c g4,Option.bind_some,hT _ (by omega),Option.bind_some]
   simp only
   rw [if_pos trivial,hun.out,hC _ (by omega),Option.bind_some,q19.j0]
   have e1:at_+((l.drop at_).length - (l.drop at').length+wd c)=at'+wd c:=by rw [List.length_drop,List.length_drop];omega
   by_cases h2:cls u=c
   ·rw [if_pos h2,if_pos (by rw [h2];simp)]
    simp only
    rw [e1]
   ·rw [if_neg h2,if_neg (by intro h;exact h2 (by have:=eq_of_beq h;omega))]
  ·rw [if_neg h1]
   have ht:am9 l at' (wd c:Int)=(0,2,(l.length:Int),(at':Int)):=by
    unfold am9
    rw [if_neg (by omega),if_pos (by rw [hql] at h1;omega)]
   rw [ht] at hT
   refine⟨K+KT+1,fun k hk=>?_⟩
   obtain⟨k,rfl⟩:∃ m,k=m+1:=⟨k - 1,by omega⟩
   unfold q19.f q65.f
   rw [Option.bind_some]
   simp only
   rw [hK' _ (by omega),Option.bind_some]
   simp only
   rw [if_pos trivial,aA2 c g4,Option.bind_some,hT _ (by omega),Option.bind_some]
   simp only
   rw [if_neg (by decide),q19.j0,if_neg (by decide)]
theorem cH8 (c:Nat) (h:c≤4) (r:List Bool):rdc 4 0 (ld c++r)=some (c,r):=by
 rcases four h with rfl|rfl|rfl|rfl|rfl<;>rfl
theorem aH2 (n:Int) (h:I64 n) (r:List Bool):numb (G5 n++r)=some (n,(G5 n).length):=by
 obtain⟨c,hc⟩:∃ c,c=cls (M5 n):=⟨_,rfl⟩
 have hc4:c≤4:=by rw [hc];exact aF7 _
 unfold numb
 have hco:G5 n=ld c++low (M5 n) (wd c):=by rw [hc];rfl
 have hll:=L6 (M5 n) (wd c)
 rw [hco,List.append_assoc,cH8 c hc4]
 simp only
 have hb:bv ((low (M5 n) (wd c)++r).take (wd c))=M5 n:=by
  rw [List.take_append_of_le_length (by omega),List.take_of_length_le (by omega),aN4]
  apply Nat.mod_eq_of_lt
  rw [hc]
  have hf:=aq8 h
  unfold cls wd
  generalize M5 n=u at *
  by_cases h0:u=0
  ·rw [if_pos h0];simp [h0]
  by_cases h1:u<128
  ·rw [if_neg h0,if_pos h1];simpa using h1
  by_cases h2:u<4096
  ·rw [if_neg h0,if_neg h1,if_pos h2];simpa using h2
  by_cases h3:u<1048576
  ·rw [if_neg h0,if_neg h1,if_neg h2,if_pos h3];simpa using h3
  ·rw [if_neg h0,if_neg h1,if_neg h2,if_neg h3];simpa using hf
 rw [if_pos (by rw [List.length_append];omega),hb,if_pos hc.symm,bB6]
 congr 2
 rw [List.length_append,List.length_append,List.length_append]
 omega
end Go.Proofs.Ytmddmbagehjdeaa.Q
end
section
namespace Go.Proofs.Ytmddmbagehjdeaa.Q
open Go Go.RowKit Go.Proofs.Ytmddmbagehjdeaa.G Go.Proofs.YtmddmbagehjdeaaW.PrintWords Go.Proofs.YtmddmbagehjdeaaW.PrintLast Go.Proofs.YtmddmbagehjdeaaW.PrintMore
theorem bD2 (u:Nat) (n:Nat) (hn:n<64):(shr .u64 (u:Int) (n:Int) != 0)=decide (u / 2 ^ n≠0):=by
 rw [aI6 .u64 _ _ (by rw [bp9];omega)]
 rw [Bool.eq_iff_iff]
 simp only [bne_iff_ne,decide_eq_true_eq,ne_eq]
 omega
noncomputable def putR (l : List Bool) (u : Nat) (n : Int) : List Int × Int × Int :=
 open Classical in
 if n<0∨64<n∨n<64∧u / 2 ^ n.toNat≠0 then(Of l,l.length,1)
 else if((131072 - l.length:Nat):Int)<n then(Of l,l.length,6)
 else(Of (l++low u n.toNat),((l.length+n.toNat:Nat):Int),0)
theorem cq3 (l:List Bool) (hl:l.length≤131072) (u:Nat) (hu:u<18446744073709551616) (n:Int):(∃ K,∀ k,K≤k→q45.f k (Of l) (l.length:Int) (u:Int) n=some (putR l u n)):=by
 obtain⟨KC,hC⟩:=ax9 l hl
 have hO:=n6 l
 have hown:=bP3 (Of l) (l.length:Int) (by rw [hO];omega)
 unfold putR
 by_cases h0:n<0
 ·rw [if_pos (.inl h0)]
  refine⟨KC+1,fun k hk=>?_⟩
  obtain⟨k,rfl⟩:∃ m,k=m+1:=⟨k - 1,by omega⟩
  unfold q45.f
  rw [hC _ (by omega),Option.bind_some,if_pos rfl,hown,Option.bind_some,if_pos h0,q45.j0,if_pos rfl]
 by_cases h1:64<n
 ·rw [if_pos (.inr (.inl h1))]
  refine⟨KC+1,fun k hk=>?_⟩
  obtain⟨k,rfl⟩:∃ m,k=m+1:=⟨k - 1,by omega⟩
  unfold q45.f
  rw [hC _ (by omega),Option.bind_some,if_pos rfl,hown,Option.bind_some,if_neg h0,if_pos h1,q45.j0,if_pos rfl]
 obtain⟨m,rfl⟩:=Int.eq_ofNat_of_zero_le (show 0≤n by omega)
 rw [Int.toNat_natCast]
 have w1:q5 (wrap64 (131072 - (l.length:Int))=((131072 - l.length:Nat):Int)):=⟨by rw [w64]<;>omega⟩
 by_cases h2:m<64∧u / 2 ^ m≠0
 ·rw [if_pos (.inr (.inr ⟨by omega,h2.2⟩))]
  refine⟨KC+1,fun k hk=>?_⟩
  obtain⟨k,rfl⟩:∃ m,k=m+1:=⟨k - 1,by omega⟩
  have hz:=h2.2
  have h2':=h2.1
  clear h2
  unfold q45.f
  rw [hC _ (by omega),Option.bind_some,if_pos rfl,hown,Option.bind_some,if_neg h0,if_neg h1,if_pos (by omega),if_pos (Int.natCast_nonneg _),bD2 u m h2',decide_eq_true hz,q45.j0,if_pos rfl]
 ·have hn:¬((m:Int)<0∨64<(m:Int)∨(m:Int)<64∧u / 2 ^ m≠0):=by
   rintro(h|h|h)
   ·exact h0 h
   ·exact h1 h
   ·exact h2 ⟨Int.ofNat_lt.1 h.1,h.2⟩
  rw [if_neg hn]
  have rest:(∃ K,∀ k,K≤k→q45.j0 k (u:Int) (m:Int) false (Of l) (l.length:Int)=some ((if((131072 - l.length:Nat):Int)<(m:Int)then(Of l,(l.length:Int),(6:Int))else(Of (l++low u m),((l.length+m:Nat):Int),0)))):=by
   clear hn h2
   by_cases h3:((131072 - l.length:Nat):Int)<(m:Int)
   ·rw [if_pos h3]
    refine⟨1,fun k hk=>?_⟩
    obtain⟨k,rfl⟩:∃ m,k=m+1:=⟨k - 1,by omega⟩
    rw [q45.j0,if_neg (by decide),w1.out,if_pos h3]
   ·rw [if_neg h3]
    obtain⟨K,hK⟩:=bI2 u (by rw [aJ7];exact hu) m l (by omega) (by omega)
    refine⟨K+1,fun k hk=>?_⟩
    obtain⟨k,rfl⟩:∃ m,k=m+1:=⟨k - 1,by omega⟩
    rw [q45.j0,if_neg (by decide),w1.out,if_neg h3,hK k (by omega),Option.bind_some]
  obtain⟨K,hK⟩:=rest
  refine⟨KC+K,fun k hk=>?_⟩
  unfold q45.f
  rw [hC _ (by omega),Option.bind_some,if_pos rfl,hown,Option.bind_some,if_neg h0,if_neg h1]
  by_cases h4:m<64
  ·have hz:¬ u / 2 ^ m≠0:=fun hz=>h2 ⟨h4,hz⟩
   clear h2 hn
   rw [if_pos (by omega),if_pos (Int.natCast_nonneg _),bD2 u m h4,decide_eq_false hz]
   exact hK k (by omega)
  ·clear h2 hn
   rw [if_neg (by omega)]
   exact hK k (by omega)
end Go.Proofs.Ytmddmbagehjdeaa.Q
end
section
namespace Go.Proofs.Ytmddmbagehjdeaa.Q
open Go Go.RowKit Go.Proofs.Ytmddmbagehjdeaa.G Go.Proofs.YtmddmbagehjdeaaW.PrintWords Go.Proofs.YtmddmbagehjdeaaW.PrintLast Go.Proofs.YtmddmbagehjdeaaW.PrintMore
theorem bN0 (m:List Bool) (hm:m.length≤64) (d:Nat):∀ (i acc:Nat),i+d=m.length→acc<2 ^ i →
  (∃ K,∀ k,K≤k→q24.l0 k m (acc:Int) (i:Int)=some (((acc*2 ^ d+bv (m.drop i):Nat):Int))):=by
 induction d with
 |zero =>
  intro i acc hi _
  refine Ev.succ 0 fun k _=>?_
  rw [q24.l0,if_neg (by omega),List.drop_of_length_le (by omega)]
  simp [bv]
 |succ d ih =>
  intro i acc hi hacc
  have hil:i<m.length:=by omega
  have hd:m.drop i=rdOf false m (i:Int)::m.drop (i+1):=by
   rw [List.drop_eq_getElem_cons hil]
   congr 1
   simp [rdOf,List.getElem?_eq_getElem hil]
  have h1:acc*2+1<18446744073709551616:=by
   have:=bN6 (show i+1≤64 by omega)
   rw [Nat.pow_succ] at this
   omega
  have h2:acc*2+(rdOf false m (i:Int)).toNat<2 ^ (i+1):=by
   have:(rdOf false m (i:Int)).toNat≤1:=by cases rdOf false m (i:Int)<;>decide
   rw [Nat.pow_succ]
   omega
  obtain⟨K,hK⟩:=ih (i+1) (acc*2+(rdOf false m (i:Int)).toNat) (by omega) h2
  have e:(acc*2+(rdOf false m (i:Int)).toNat)*2 ^ d+bv (m.drop (i+1))=acc*2 ^ (d+1)+bv (m.drop i):=by
   rw [hd,bv,List.length_drop,Nat.add_mul,Nat.pow_succ,show m.length - (i+1)=d by omega,Nat.mul_assoc,Nat.mul_comm 2 (2 ^ d),Nat.add_assoc]
  rw [e] at hK
  have w1:q5 (wrap64 ((i:Int)+1)=((i+1:Nat):Int)):=⟨by rw [w64]<;>omega⟩
  have u1:q5 (IntKind.u64.wrap ((acc:Int)*2)=((acc*2:Nat):Int)):=⟨by rw [W6];omega⟩
  have u2:q5 (IntKind.u64.wrap (((acc*2:Nat):Int)+1)=((acc*2+1:Nat):Int)):=⟨by rw [W6];omega⟩
  refine Ev.succ K fun k hk=>?_
  rw [q24.l0,if_pos (by omega),if_pos (by omega),u1.out,u2.out,w1.out]
  have:=hK k hk
  cases hb:rdOf false m (i:Int)with
  |true=>rw [if_pos rfl];rw [hb] at this;exact this
  |false=>rw [if_neg (by decide)];rw [hb] at this;exact this
theorem bx2 (m:List Bool) (hm:m.length≤64):(∃ K,∀ k,K≤k→q24.f k m=some (((bv m:Nat):Int))):=by
 obtain⟨K,hK⟩:=bN0 m hm m.length 0 0 (by omega) (Nat.two_pow_pos _)
 rw [Nat.zero_mul,Nat.zero_add,List.drop_zero] at hK
 exact⟨K,hK⟩
theorem aY4 (n:Int) (h:I64 n):q51.f n=some (M5 n:Int):=by
 unfold q51.f I64 M5 at *
 by_cases h0:0≤n
 ·rw [if_pos h0,if_pos h0,W6,W6]
  congr 1
  omega
 ·have w1:wrap64 (-1 - n) = -1 - n:=by rw [w64]<;>omega
  rw [if_neg h0,if_neg h0,w1,W6,W6,W6]
  congr 1
  omega
theorem aP5 (n:Int) (h:I64 n):q46.f n=some ((cls (M5 n):Nat):Int):=by
 unfold q46.f
 rw [aY4 n h,Option.bind_some]
 unfold cls
 by_cases h0:M5 n=0
 ·rw [if_pos (by omega),if_pos h0];rfl
 by_cases h1:M5 n<128
 ·rw [if_neg (by omega),if_pos (by omega),if_neg h0,if_pos h1];rfl
 by_cases h2:M5 n<4096
 ·rw [if_neg (by omega),if_neg (by omega),if_pos (by omega),if_neg h0,if_neg h1,if_pos h2];rfl
 by_cases h3:M5 n<1048576
 ·rw [if_neg (by omega),if_neg (by omega),if_neg (by omega),if_pos (by omega),if_neg h0,if_neg h1,if_neg h2,if_pos h3];rfl
 ·rw [if_neg (by omega),if_neg (by omega),if_neg (by omega),if_neg (by omega),if_neg h0,if_neg h1,if_neg h2,if_neg h3];rfl
def numP (r:List Bool):Int×Int:=match numb r with|some (n,j)=>(n,(j:Int))|none=>(0,0)
def kk (c:Nat):Nat:=if c=4 then 4 else c+1
theorem de3 (c:Nat) (h:c≤4):kk c≤5:=by unfold kk;split<;>omega
def numK (r:List Bool) (c:Nat):Int×Int :=
 if kk c+wd c≤r.length then(if cls (bv ((r.drop (kk c)).take (wd c)))=c then(Q8 (bv ((r.drop (kk c)).take (wd c))),((kk c+wd c:Nat):Int))else(0,0))else(0,0)
theorem aC1 (c:Nat) (h:c≤4):rd ([0,7,12,20,64]:List Int) (c:Int)=(wd c:Int):=by rcases four h with rfl|rfl|rfl|rfl|rfl<;>rfl
theorem bX9 (r:List Bool) (hr:r.length≤1000000) (c:Nat) (h:c≤4):(∃ K,∀ k,K≤k→q12.j1 k r ([0,7,12,20,64]:List Int) (c:Int)=some (numK r c)):=by
 have hw:=aY9 c
 have hk:=de3 c h
 have w0:q5 (wrap64 ((c:Int)+1)=((c+1:Nat):Int)):=⟨by rw [w64]<;>omega⟩
 have goal2:(∃ K,∀ k,K≤k→q12.j2 k r ([0,7,12,20,64]:List Int) (c:Int) (kk c:Int)=some (numK r c)):=by
  unfold numK
  have w1:q5 (wrap64 ((kk c:Int)+(wd c:Int))=((kk c+wd c:Nat):Int)):=⟨by rw [w64]<;>omega⟩
  by_cases h1:kk c+wd c≤r.length
  ·rw [if_pos h1]
   have hs:(r.take (((kk c+wd c:Nat):Int).toNat)).drop ((kk c:Int).toNat)=(r.drop (kk c)).take (wd c):=by
    rw [Int.toNat_natCast,Int.toNat_natCast,List.drop_take]
    congr 1
    omega
   have hl:((r.drop (kk c)).take (wd c)).length≤64:=by rw [List.length_take];omega
   obtain⟨KV,hV⟩:=bx2 _ hl
   obtain⟨u,hu⟩:∃ u,u=bv ((r.drop (kk c)).take (wd c)):=⟨_,rfl⟩
   have hlt:u<18446744073709551616:=by rw [hu];exact Nat.lt_of_lt_of_le (ap9 _) (bN6 hl)
   rw [←hu] at hV ⊢
   have hun:=aP7 u hlt
   have hc2:=aP5 (Q8 u) hun
   rw [aQ8] at hc2
   have t1:Int.tmod (u:Int) 2=((u % 2:Nat):Int):=by rw [ae5 (Int.natCast_nonneg _)];simp
   have t2:q5 (wrap64 (IntKind.u64.wrap (Int.tdiv (u:Int) 2))=((u / 2:Nat):Int)):=⟨by rw [ah0 (Int.natCast_nonneg _),W6,w64]<;>omega⟩
   have t3:q5 (wrap64 (-1 - ((u / 2:Nat):Int)) = -1 - ((u / 2:Nat):Int)):=⟨by rw [w64]<;>omega⟩
   refine⟨KV+1,fun k hk=>?_⟩
   obtain⟨k,rfl⟩:∃ m,k=m+1:=⟨k - 1,by omega⟩
   have c5:(c:Int)<(([0,7,12,20,64]:List Int).length:Int):=by
    have:([0,7,12,20,64]:List Int).length=5:=rfl
    omega
   have c6:¬((kk c+wd c:Nat):Int)>(r.length:Int):=by omega
   have c7:(kk c:Int)≤((kk c+wd c:Nat):Int):=by omega
   have c8:((kk c+wd c:Nat):Int)≤(r.length:Int):=by omega
   rw [q12.j2,if_pos (Int.natCast_nonneg _),if_pos c5,aC1 c h,w1.out,if_neg c6,if_pos (Int.natCast_nonneg _),if_pos c7,if_pos c8,hs,hV k (by omega),Option.bind_some,t1,t2.out,t3.out]
   by_cases h2:u % 2=1
   ·rw [if_pos (by omega)]
    have e : -1 - ((u / 2:Nat):Int)=Q8 u:=by unfold Q8;rw [if_neg (by omega)]
    rw [e,hc2,Option.bind_some]
    by_cases h3:cls u=c
    ·rw [if_pos (by rw [h3]),if_pos h3]
    ·rw [if_neg (by omega),if_neg h3]
   ·rw [if_neg (by omega)]
    have e:((u / 2:Nat):Int)=Q8 u:=by unfold Q8;rw [if_pos (by omega)]
    rw [e,hc2,Option.bind_some]
    by_cases h3:cls u=c
    ·rw [if_pos (by rw [h3]),if_pos h3]
    ·rw [if_neg (by omega),if_neg h3]
  ·rw [if_neg h1]
   refine⟨1,fun k hk=>?_⟩
   obtain⟨k,rfl⟩:∃ m,k=m+1:=⟨k - 1,by omega⟩
   have c5:(c:Int)<(([0,7,12,20,64]:List Int).length:Int):=by
    have:([0,7,12,20,64]:List Int).length=5:=rfl
    omega
   rw [q12.j2,if_pos (Int.natCast_nonneg _),if_pos c5,aC1 c h,w1.out,if_pos (by omega)]
 obtain⟨K,hK⟩:=goal2
 refine⟨K+1,fun k hk=>?_⟩
 obtain⟨k,rfl⟩:∃ m,k=m+1:=⟨k - 1,by omega⟩
 have:=hK k (by omega)
 rw [q12.j1]
 by_cases h4:c=4
 ·rw [if_pos (by omega)]
  have e:(kk c:Int)=4:=by unfold kk;rw [if_pos h4];rfl
  rw [e] at this
  exact this
 ·rw [if_neg (by omega),w0.out]
  have e:(kk c:Int)=((c+1:Nat):Int):=by unfold kk;rw [if_neg h4]
  rw [e] at this
  exact this
theorem aR5 (r:List Bool) (hr:r.length≤1000000):∀ (f c:Nat),f+c=4 →
  (∀ c' q,rdc f c (r.drop c)=some (c',q)→q=r.drop (kk c')∧c'≤4∧kk c'≤r.length+(if c'=4 then 4 else 0)∧(∃ K,∀ k,K≤k→q12.l0 k r ([0,7,12,20,64]:List Int) (c:Int)=some (numK r c'))) ∧
  (rdc f c (r.drop c)=none→(∃ K,∀ k,K≤k→q12.l0 k r ([0,7,12,20,64]:List Int) (c:Int)=some ((0,0))))
 |0,c,hf=>by
  obtain rfl:c=4:=by omega
  refine⟨fun c' q h=>?_,fun h=>by cases h⟩
  simp only [rdc,Option.some.injEq,Prod.mk.injEq] at h
  obtain⟨rfl,rfl⟩:=h
  obtain⟨K,hK⟩:=bX9 r hr 4 (Nat.le_refl _)
  refine⟨rfl,Nat.le_refl _,by simp [kk],K+1,fun k hk=>?_⟩
  obtain⟨k,rfl⟩:∃ m,k=m+1:=⟨k - 1,by omega⟩
  rw [q12.l0,if_neg (by omega)]
  exact hK k (by omega)
 |f+1,c,hf=>by
  obtain⟨KN,hN⟩:=bX9 r hr c (by omega)
  rcases hd:r.drop c with _|⟨b,q0⟩
  ·have hle:r.length≤c:=by simpa using hd
   refine⟨fun c' q h=>(by simp [rdc] at h),fun _=>⟨KN+1,fun k hk=>?_⟩⟩
   obtain⟨k,rfl⟩:∃ m,k=m+1:=⟨k - 1,by omega⟩
   rw [q12.l0,if_pos (by omega),if_neg (by omega)]
   rw [hN k (by omega)]
   unfold numK kk
   rw [if_neg (by rw [if_neg (show ¬ c=4 by omega)];omega)]
  ·obtain⟨h1,h2,h3⟩:=aO0 hd
   have hb:rdOf false r (c:Int)=b:=by
    have:r[c]'h1=b:=by
     have:=List.drop_eq_getElem_cons h1
     rw [hd] at this
     exact(List.cons.inj this).1.symm
    simp [rdOf,List.getElem?_eq_getElem h1,this]
   cases b with
   |false =>
    refine⟨fun c' q h=>?_,fun h=>(by simp [rdc] at h)⟩
    simp only [rdc,Option.some.injEq,Prod.mk.injEq] at h
    obtain⟨rfl,rfl⟩:=h
    have hkk:kk c=c+1:=by unfold kk;rw [if_neg (by omega)]
    refine⟨by rw [hkk,h2],by omega,by omega,KN+1,fun k hk=>?_⟩
    obtain⟨k,rfl⟩:∃ m,k=m+1:=⟨k - 1,by omega⟩
    rw [q12.l0,if_pos (by omega),if_pos (by omega),if_pos (by omega),hb,if_neg (by decide)]
    exact hN k (by omega)
   |true =>
    obtain⟨i1,i2⟩:=aR5 r hr f (c+1) (by omega)
    rw [h2] at i1 i2
    have w1:q5 (wrap64 ((c:Int)+1)=((c+1:Nat):Int)):=⟨by rw [w64]<;>omega⟩
    have step:∀ z,(∃ K,∀ k,K≤k→q12.l0 k r ([0,7,12,20,64]:List Int) ((c+1:Nat):Int)=some (z))→(∃ K,∀ k,K≤k→q12.l0 k r ([0,7,12,20,64]:List Int) (c:Int)=some (z)):=by
     rintro z ⟨K,hK⟩
     refine⟨K+1,fun k hk=>?_⟩
     obtain⟨k,rfl⟩:∃ m,k=m+1:=⟨k - 1,by omega⟩
     rw [q12.l0,if_pos (by omega),if_pos (by omega),if_pos (by omega),hb,if_pos rfl,w1.out]
     exact hK k (by omega)
    exact⟨fun c' q h=>⟨(i1 c' q h).1,(i1 c' q h).2.1,(i1 c' q h).2.2.1,step _ (i1 c' q h).2.2.2⟩,fun h=>step _ (i2 h)⟩
theorem bp3:∀ (f c:Nat) (r:List Bool) (c':Nat) (q:List Bool),rdc f c r=some (c',q)→r.length=q.length+(if c'=c+f then f else c' - c+1)∧c≤c'∧c'≤c+f
 |0,c,r,c',q,h=>by
  simp only [rdc,Option.some.injEq,Prod.mk.injEq] at h
  obtain⟨rfl,rfl⟩:=h
  simp
 |f+1,c,[],c',q,h=>by simp [rdc] at h
 |f+1,c,false::r,c',q,h=>by
  simp only [rdc,Option.some.injEq,Prod.mk.injEq] at h
  obtain⟨rfl,rfl⟩:=h
  rw [if_neg (by omega),List.length_cons]
  omega
 |f+1,c,true::r,c',q,h=>by
  have:=bp3 f (c+1) r c' q h
  rw [List.length_cons]
  split at this<;>split<;>omega
theorem bf4 (r:List Bool) (hr:r.length≤1000000):(∃ K,∀ k,K≤k→q12.f k r=some (numP r)):=by
 obtain⟨i1,i2⟩:=aR5 r hr 4 0 rfl
 rw [List.drop_zero] at i1 i2
 unfold numP numb
 rcases h:rdc 4 0 r with _|⟨c,q⟩
 ·obtain⟨K,hK⟩:=i2 h
  exact⟨K,hK⟩
 ·obtain⟨hq,h4,hkl,K,hK⟩:=i1 c q h
  have hlen:=(bp3 4 0 r c q h).1
  have hk2:r.length=q.length+kk c:=by
   rw [hlen]
   unfold kk
   congr 1
  refine⟨K,fun k hk=>?_⟩
  have:=hK k hk
  have e0:((0:Nat):Int)=0:=rfl
  rw [e0] at this
  unfold q12.f
  rw [this]
  congr 1
  unfold numK
  rw [←hq]
  simp only
  by_cases h1:wd c≤q.length
  ·rw [if_pos (by omega),if_pos h1]
   by_cases h2:cls (bv (q.take (wd c)))=c
   ·rw [if_pos h2,if_pos h2]
    simp only
    rw [show r.length - q.length=kk c by omega]
   ·rw [if_neg h2,if_neg h2]
  ·rw [if_neg (by omega),if_neg h1]
theorem aM2 (r:List Bool) (n:Int) (j:Nat) (h:numb r=some (n,j)):0<j∧j≤r.length:=by
 unfold numb at h
 rcases hr:rdc 4 0 r with _|⟨c,q⟩
 ·rw [hr] at h;cases h
 ·rw [hr] at h
  simp only at h
  have:=bp3 4 0 r c q hr
  split at h
  ·split at h
   ·simp only [Option.some.injEq,Prod.mk.injEq] at h
    obtain⟨_,rfl⟩:=h
    have h1:=this.1
    split at h1<;>omega
   ·cases h
  ·cases h
end Go.Proofs.Ytmddmbagehjdeaa.Q
end
section
namespace Go.Proofs.Ytmddmbagehjdeaa.Q
open Go Go.RowKit Go.Proofs.Ytmddmbagehjdeaa.G Go.Proofs.YtmddmbagehjdeaaW.PrintWords Go.Proofs.YtmddmbagehjdeaaW.PrintLast Go.Proofs.YtmddmbagehjdeaaW.PrintMore
theorem cw0 (u j m:Nat):(List.replicate (m+1) false++low u j).set m (u / 2 ^ j % 2 == 1)=List.replicate m false++low u (j+1):=by
 rw [List.replicate_succ',List.append_assoc,List.set_append_right _ _ (by simp),List.length_replicate,Nat.sub_self,low]
 rfl
theorem ck9 (u n:Nat) (hu:u<18446744073709551616) (hn:n≤64):∀ m,m≤n →
  (∃ K,∀ k,K≤k→q14.l0 k ((u / 2 ^ (n - m):Nat):Int) (List.replicate m false++low u (n - m)) ((m:Int) - 1)=some (low u n)):=by
 intro m
 induction m with
 |zero =>
  intro _
  refine Ev.succ 0 fun k _=>?_
  rw [q14.l0,if_neg (by omega),Nat.sub_zero]
  rfl
 |succ m ih =>
  intro hm
  obtain⟨K,hK⟩:=ih (by omega)
  obtain⟨j,hj⟩:∃ j,n - (m+1)=j:=⟨_,rfl⟩
  have hj1:n - m=j+1:=by omega
  rw [hj1] at hK
  obtain⟨v,hv⟩:∃ v,u / 2 ^ j=v:=⟨_,rfl⟩
  have hv1:u / 2 ^ (j+1)=v / 2:=by rw [Nat.pow_succ,←Nat.div_div_eq_div_mul,hv]
  have hvl:v<18446744073709551616:=by rw [←hv];exact Nat.lt_of_le_of_lt (Nat.div_le_self _ _) hu
  rw [hv1] at hK
  have e1:q5 (IntKind.u64.wrap (Int.tdiv (v:Int) 2)=((v / 2:Nat):Int)):=⟨by rw [ah0 (Int.natCast_nonneg _),W6];omega⟩
  have e2:q5 ((Int.tmod (v:Int) 2 == 1)=(v % 2 == 1)):=⟨by rw [ae5 (Int.natCast_nonneg _),Bool.eq_iff_iff];simp only [beq_iff_eq];omega⟩
  have e3:q5 (wrap64 (((m+1:Nat):Int) - 1 - 1)=(m:Int) - 1):=⟨by rw [w64]<;>omega⟩
  have e4:q5 ((((m+1:Nat):Int) - 1).toNat=m):=⟨by omega⟩
  refine Ev.succ K fun k hk=>?_
  rw [hj,hv,q14.l0,if_pos (by omega),if_pos (by omega),if_pos (by rw [List.length_append,List.length_replicate];omega),e1.out,e2.out,e3.out,e4.out,←hv,cw0,hv]
  exact hK k hk
theorem cl5 (u n:Nat) (hu:u<18446744073709551616) (hn:n≤64):(∃ K,∀ k,K≤k→q14.f k (u:Int) (n:Int)=some (low u n)):=by
 obtain⟨K,hK⟩:=ck9 u n hu hn n (Nat.le_refl _)
 rw [Nat.sub_self,Nat.pow_zero,Nat.div_one] at hK
 have e1:q5 (wrap64 ((n:Int) - 1)=(n:Int) - 1):=⟨by rw [w64]<;>omega⟩
 refine⟨K,fun k hk=>?_⟩
 unfold q14.f
 rw [if_pos (Int.natCast_nonneg _),Int.toNat_natCast,if_pos (by omega),e1.out]
 have:=hK k hk
 rwa [low,List.append_nil] at this
theorem bN8 (n:Int) (h:I64 n) (c:Nat) (hc:c≤4) (hcn:cls (M5 n)=c):∀ d i,i+d=c →
  (∃ K,∀ k,K≤k→q17.l0 k n ([0,7,12,20,64]:List Int) (c:Int) (List.replicate i true) (i:Int)=some (G5 n)):=by
 intro d
 induction d with
 |zero =>
  intro i hi
  obtain rfl:i=c:=by omega
  obtain⟨K,hK⟩:=cl5 (M5 n) (wd i) (aq8 h) (aY9 i)
  have hco:G5 n=ld i++low (M5 n) (wd i):=by rw [G5,hcn]
  have hll:=L6 (M5 n) (wd i)
  have hwd:=aY9 i
  have hf:=aY4 n h
  rw [hco]
  refine⟨K+1,fun k hk=>?_⟩
  obtain⟨k,rfl⟩:∃ m,k=m+1:=⟨k - 1,by omega⟩
  by_cases h4:i=4
  ·subst h4
   rw [q17.l0,if_neg (by omega),if_neg (by decide),hf,Option.bind_some,if_pos (by decide),if_pos (by decide),aC1 4 (by decide),hK k (by omega),Option.bind_some,if_pos (by rw [hll,List.length_replicate];omega)]
   rfl
  ·have hld:ld i=List.replicate i true++[false]:=by unfold ld;rw [if_neg h4]
   rw [q17.l0,if_neg (by omega),if_pos (by omega),if_pos (by rw [List.length_replicate];omega),Option.bind_some,hf,Option.bind_some,if_pos (Int.natCast_nonneg _),if_pos (by simp only [List.length_cons,List.length_nil];omega),aC1 i hc,hK k (by omega),Option.bind_some,if_pos (by rw [hll,List.length_append,List.length_replicate,List.length_singleton];omega),hld]
 |succ d ih =>
  intro i hi
  obtain⟨K,hK⟩:=ih (i+1) (by omega)
  have e1:q5 (wrap64 ((i:Int)+1)=((i+1:Nat):Int)):=⟨by rw [w64]<;>omega⟩
  refine Ev.succ K fun k hk=>?_
  rw [q17.l0,if_pos (by omega),if_pos (by rw [List.length_replicate];omega),e1.out,←List.replicate_succ']
  exact hK k hk
theorem bx4 (n:Int) (h:I64 n):(∃ K,∀ k,K≤k→q17.f k n=some (G5 n)):=by
 obtain⟨K,hK⟩:=bN8 n h (cls (M5 n)) (aF7 _) rfl _ 0 (Nat.zero_add _)
 refine⟨K,fun k hk=>?_⟩
 unfold q17.f
 rw [aP5 n h,Option.bind_some]
 exact hK k hk
def OfT (l:List Bool) (T:Nat):List Int:=(List.range T).map fun j=>(s6 ((l.drop (8*j)).take 8):Int)
theorem bR0 (l:List Bool) (T:Nat):(OfT l T).length=T:=by simp [OfT]
theorem bd1 {α:Type} (f g:Nat→α) (T j:Nat) (v:α) (hj:g j=v) (hg:∀ k,k<T→k≠j→g k=f k):((List.range T).map f).set j v=(List.range T).map g:=by
 apply List.ext_getElem
 ·simp
 intro i h1 h2
 rw [List.getElem_set]
 simp only [List.length_map,List.length_range] at h2
 by_cases h:j=i
 ·subst h;rw [if_pos rfl];simp [hj]
 ·rw [if_neg h];simp [hg i h2 (fun e=>h e.symm)]
theorem aG9 (l:List Bool) (x:Bool) (j:Nat):(((l++[x]).drop (8*j)).take 8)=if j=l.length / 8 then((l.drop (8*j)).take 8)++[x] else(l.drop (8*j)).take 8:=by
 by_cases h:j=l.length / 8
 ·rw [if_pos h,List.drop_append_of_le_length (by omega),List.take_of_length_le (by simp;omega),List.take_of_length_le (by simp;omega)]
 ·rw [if_neg h]
  by_cases h1:8*j≤l.length
  ·rw [List.drop_append_of_le_length h1,List.take_append_of_le_length (by simp;omega)]
  ·rw [List.drop_of_length_le (by simp;omega),List.drop_of_length_le (by omega)]
theorem bl9 (p:List Bool) (h:p.length≤7):s6 (p++[false])=s6 p:=by
 unfold s6
 rw [ag4,List.length_append,List.length_singleton,show 8 - p.length=1+(8 - (p.length+1))by omega,Nat.pow_add]
 simp only [bv,Bool.toNat_false,List.length_nil,Nat.pow_zero,Nat.zero_mul,Nat.add_zero]
 rw [Nat.mul_assoc]
theorem aQ6 (p:List Bool) (h:p.length≤7):s6 (p++[true])=s6 p+2 ^ (7 - p.length):=by
 unfold s6
 rw [ag4,List.length_append,List.length_singleton,show 8 - p.length=1+(8 - (p.length+1))by omega,Nat.pow_add,show 7 - p.length=8 - (p.length+1)by omega]
 simp only [bv,Bool.toNat_true,List.length_nil,Nat.pow_zero,Nat.one_mul,Nat.add_zero]
 rw [Nat.add_mul,Nat.mul_assoc,Nat.one_mul]
theorem cd7 (l:List Bool) (T:Nat):OfT (l++[false]) T=OfT l T:=by
 unfold OfT
 apply List.map_congr_left
 intro j _
 rw [aG9]
 split
 ·rename_i h
  rw [bl9]
  simp only [List.length_take,List.length_drop]
  omega
 ·rfl
theorem cm9 (l:List Bool) (T j:Nat) (hj:j<T):rd (OfT l T) (j:Int)=(s6 ((l.drop (8*j)).take 8):Int):=by
 unfold rd OfT
 rw [Int.toNat_natCast]
 simp [hj]
theorem cr6 (l:List Bool) (T:Nat) (hT:l.length / 8<T):(OfT l T).set (l.length / 8) ((s6 ((l.drop (8*(l.length / 8))).take 8)+2 ^ (7 - l.length % 8):Nat):Int)=OfT (l++[true]) T:=by
 unfold OfT
 refine bd1 _ _ T _ _ ?_ ?_
 ·rw [aG9,if_pos rfl,aQ6]
  ·congr 3
   simp only [List.length_take,List.length_drop]
   omega
  ·simp only [List.length_take,List.length_drop]
   omega
 ·intro k _ hk
  rw [aG9,if_neg hk]
theorem cu1 (T:Nat):OfT [] T=List.replicate T 0:=by
 unfold OfT
 apply List.ext_getElem
 ·simp
 intro i h1 h2
 simp [s6,bv]
theorem ct5 (l:List Bool) (hl:l.length≤1000000) (T:Nat) (hT:T=(l.length+7) / 8) (d:Nat):∀ i,i+d=l.length→(∃ K,∀ k,K≤k→q37.l0 k l (OfT (l.take i) T) (i:Int)=some ((Of l,(l.length:Int)))):=by
 induction d with
 |zero =>
  intro i hi
  refine Ev.succ 0 fun k _=>?_
  rw [q37.l0,if_neg (by omega),List.take_of_length_le (by omega),hT]
  rfl
 |succ d ih =>
  intro i hi
  obtain⟨K,hK⟩:=ih (i+1) (by omega)
  have hil:i<l.length:=by omega
  have hb:rdOf false l (i:Int)=l[i]:=by simp [rdOf,List.getElem?_eq_getElem hil]
  have hti:(l.take i).length=i:=by rw [List.length_take];omega
  have ht:l.take (i+1)=l.take i++[l[i]]:=(List.take_append_getElem hil).symm
  have e1:q5 (wrap64 ((i:Int)+1)=((i+1:Nat):Int)):=⟨by rw [w64]<;>omega⟩
  have e2:q5 (wrap64 (Int.tdiv (i:Int) 8)=((i / 8:Nat):Int)):=⟨by rw [ah0 (Int.natCast_nonneg _),w64]<;>omega⟩
  have e3:q5 (IntKind.u64.wrap (wrap64 (7 - Int.tmod (i:Int) 8))=((7 - i % 8:Nat):Int)):=⟨by rw [ae5 (Int.natCast_nonneg _),w64,W6]<;>omega⟩
  have hlen:=bR0 (l.take i) T
  refine Ev.succ K fun k hk=>?_
  have hk1:=hK k hk
  rw [ht] at hk1
  cases hx:l[i] with
  |false =>
   rw [hx,cd7] at hk1
   rw [q37.l0,if_pos (by omega),if_pos (by omega),hb,hx,if_neg (by decide),e1.out]
   exact hk1
  |true =>
   have hbt:=aN0 (((l.take i).drop (8*(i / 8))).take 8++[true]) (by simp only [List.length_append,List.length_take,List.length_drop,List.length_singleton];omega)
   have hp:(((l.take i).drop (8*(i / 8))).take 8).length=i % 8:=by simp only [List.length_take,List.length_drop];omega
   rw [aQ6 _ (by omega),hp] at hbt
   have hO:=cr6 (l.take i) T (by rw [hti];omega)
   rw [hti] at hO
   have hrd:=cm9 (l.take i) T (i / 8) (by omega)
   have e4:q5 ((rd (OfT (l.take i) T) ((i / 8:Nat):Int)+shl .u8 1 ((7 - i % 8:Nat):Int)) % 256=((s6 (((l.take i).drop (8*(i / 8))).take 8)+2 ^ (7 - i % 8):Nat):Int)):=⟨by
    have h8:2 ^ (7 - i % 8)<256:=by
     have:=Nat.pow_le_pow_right (show 0<2 by decide) (show 7 - i % 8≤7 by omega)
     omega
    rw [hrd,show(1:Int)=((1:Nat):Int) from rfl,az7 1 _ (by omega),Nat.one_mul,Nat.mod_eq_of_lt h8,←Int.natCast_add,show(256:Int)=((256:Nat):Int) from rfl,←Int.natCast_emod,Nat.mod_eq_of_lt hbt]⟩
   rw [hx,←hO] at hk1
   rw [q37.l0,if_pos (by omega),if_pos (by omega),hb,hx,if_pos rfl,e2.out,if_pos (Int.natCast_nonneg _),if_pos (by rw [hlen];omega),e3.out,if_pos (Int.natCast_nonneg _),e4.out,Int.toNat_natCast,e1.out]
   exact hk1
theorem cn6 (l:List Bool) (hl:l.length≤1000000):(∃ K,∀ k,K≤k→q37.f k l=some ((Of l,(l.length:Int)))):=by
 obtain⟨K,hK⟩:=ct5 l hl _ rfl l.length 0 (Nat.zero_add _)
 have e1:q5 (wrap64 (Int.tdiv (wrap64 ((l.length:Int)+7)) 8)=(((l.length+7) / 8:Nat):Int)):=⟨by
  have:wrap64 ((l.length:Int)+7)=((l.length+7:Nat):Int):=by rw [w64]<;>omega
  rw [this,ah0 (Int.natCast_nonneg _),w64]<;>omega⟩
 refine⟨K,fun k hk=>?_⟩
 unfold q37.f
 rw [e1.out,if_pos (Int.natCast_nonneg _),Int.toNat_natCast,if_pos (by omega)]
 have:=hK k hk
 rwa [List.take_zero,cu1] at this
end Go.Proofs.Ytmddmbagehjdeaa.Q
end
section
namespace Go.Proofs.Ytmddmbagehjdeaa.Q
open Go Go.RowKit Go.Proofs.Ytmddmbagehjdeaa.G Go.Proofs.YtmddmbagehjdeaaW.PrintWords Go.Proofs.YtmddmbagehjdeaaW.PrintLast
abbrev Smp:=S67
def at_ (l:List Smp) (i:Nat):Smp:=D0 l i
def Fits (l:List Smp) (i:Nat):Prop:=0≤(at_ l i).f0∧(at_ l i).f0≤1099511627776 ∧ -1099511627776≤(at_ l i).f1∧(at_ l i).f1≤1099511627776∧(0<i→(at_ l (i - 1)).f0<(at_ l i).f0)
def May (l:List Smp):Prop:=l.length≤64∧∀ i,i<l.length→Fits l i
noncomputable instance (l : List Smp) : Decidable (May l) := Classical.propDecidable _
theorem cl8 (l:List Smp) (hl:l.length≤maxLen) (d:Nat):∀ i:Nat,i+d=l.length→(∀ j,j<i→Fits l j)→(∃ K,∀ k,K≤k→q36.l0 k l i=some ((decide (May l)))):=by
 unfold maxLen at hl
 induction d with
 |zero =>
  intro i hi hf
  refine Ev.succ 0 fun k _=>?_
  simp only [q36.l0]
  rw [if_neg (by omega)]
  congr 1
  rw [decide_eq_decide]
  exact⟨fun h=>⟨by omega,fun j hj=>hf j (by omega)⟩,fun h=>by have:=h.1;omega⟩
 |succ d ih =>
  intro i hi hf
  have bad:¬ Fits l i→decide (May l)=false:=fun h=>decide_eq_false (fun hm=>h (hm.2 i (by omega)))
  by_cases g:Fits l i
  ·obtain⟨K,hK⟩:=ih (i+1) (by omega) (fun j hj=>by
    rcases Nat.lt_or_ge j i with h|h
    ·exact hf j h
    ·obtain rfl:j=i:=by omega
     exact g)
   refine Ev.succ K fun k hk=>?_
   simp only [q36.l0]
   obtain⟨g1,g2,g3,g4,g5⟩:=g
   have hK':=hK k hk
   have e1:wrap64 ((i:Int)+1)=((i+1:Nat):Int):=by rw [w64]<;>omega
   simp only [at_] at g1 g2 g3 g4 g5
   rw [if_pos (by omega),if_pos (by omega),if_neg (by omega),if_neg (by omega),if_neg (by omega),if_neg (by omega),e1]
   by_cases h0:0<i
   ·have e2:wrap64 ((i:Int) - 1)=((i - 1:Nat):Int):=by rw [w64]<;>omega
    have g6:=g5 h0
    rw [if_pos (by omega),e2,if_pos (by omega),if_pos (by omega),if_neg (by omega)]
    exact hK'
   ·rw [if_neg (by omega)]
    exact hK'
  ·rw [bad g]
   refine Ev.succ 0 fun k _=>?_
   simp only [q36.l0]
   rw [if_pos (by omega),if_pos (by omega)]
   unfold Fits at g
   simp only [at_] at g
   by_cases g1:(D0 l i).f0<0
   ·rw [if_pos g1]
   by_cases g2:(D0 l i).f0>1099511627776
   ·rw [if_neg g1,if_pos g2]
   by_cases g3:(D0 l i).f1 < -1099511627776
   ·rw [if_neg g1,if_neg g2,if_pos g3]
   by_cases g4:(D0 l i).f1>1099511627776
   ·rw [if_neg g1,if_neg g2,if_neg g3,if_pos g4]
   have h0:0<i:=by
    rcases Nat.eq_zero_or_pos i with h|h
    ·exact absurd ⟨by omega,by omega,by omega,by omega,fun hh=>by omega⟩ g
    ·exact h
   have e2:wrap64 ((i:Int) - 1)=((i - 1:Nat):Int):=by rw [w64]<;>omega
   have g5:(D0 l ((i - 1:Nat):Int)).f0≥(D0 l i).f0:=by
    by_cases h:(D0 l ((i - 1:Nat):Int)).f0<(D0 l i).f0
    ·exact absurd ⟨by omega,by omega,by omega,by omega,fun _=>h⟩ g
    ·omega
   rw [if_neg g1,if_neg g2,if_neg g3,if_neg g4,if_pos (by omega),e2,if_pos (by omega),if_pos (by omega),if_pos g5]
theorem cH3 (l:List Smp) (hl:l.length≤maxLen):(∃ K,∀ k,K≤k→q36.f k l=some ((decide (May l)))) :=
 cl8 l hl l.length 0 (by omega) (fun j hj=>by omega)
theorem bQ4 (l:List Smp) (hl:l.length≤64) (d:Nat):∀ i:Nat,i+d=l.length→(∀ j,j<i→Fits l j)→(∃ K,∀ k,K≤k→q39.l0 k l l (l.length:Int) i=some ((if May l then 0 else 1))):=by
 induction d with
 |zero =>
  intro i hi hf
  refine Ev.succ 0 fun k _=>?_
  simp only [q39.l0]
  rw [if_neg (by omega),if_pos ⟨hl,fun j hj=>hf j (by omega)⟩]
 |succ d ih =>
  intro i hi hf
  have bad:¬ Fits l i→¬ May l:=fun h hm=>h (hm.2 i (by omega))
  by_cases g:Fits l i
  ·obtain⟨K,hK⟩:=ih (i+1) (by omega) (fun j hj=>by
    rcases Nat.lt_or_ge j i with h|h
    ·exact hf j h
    ·obtain rfl:j=i:=by omega
     exact g)
   refine Ev.succ K fun k hk=>?_
   simp only [q39.l0]
   obtain⟨g1,g2,g3,g4,g5⟩:=g
   have hK':=hK k hk
   have e1:wrap64 ((i:Int)+1)=((i+1:Nat):Int):=by rw [w64]<;>omega
   simp only [at_] at g1 g2 g3 g4 g5
   rw [if_pos (by omega),if_pos (by omega),if_pos (by omega),if_neg (by omega),if_neg (by omega),if_neg (by omega),if_neg (by omega),e1]
   by_cases h0:0<i
   ·have e2:wrap64 ((i:Int) - 1)=((i - 1:Nat):Int):=by rw [w64]<;>omega
    have g6:=g5 h0
    rw [if_pos (by omega),e2,if_pos (by omega),if_pos (by omega),if_neg (by omega)]
    exact hK'
   ·rw [if_neg (by omega)]
    exact hK'
  ·rw [if_neg (bad g)]
   refine Ev.succ 0 fun k _=>?_
   simp only [q39.l0]
   rw [if_pos (by omega),if_pos (by omega),if_pos (by omega)]
   unfold Fits at g
   simp only [at_] at g
   by_cases g1:(D0 l i).f0<0
   ·rw [if_pos g1]
   by_cases g2:(D0 l i).f0>1099511627776
   ·rw [if_neg g1,if_pos g2]
   by_cases g3:(D0 l i).f1 < -1099511627776
   ·rw [if_neg g1,if_neg g2,if_pos g3]
   by_cases g4:(D0 l i).f1>1099511627776
   ·rw [if_neg g1,if_neg g2,if_neg g3,if_pos g4]
   have h0:0<i:=by
    rcases Nat.eq_zero_or_pos i with h|h
    ·exact absurd ⟨by omega,by omega,by omega,by omega,fun hh=>by omega⟩ g
    ·exact h
   have e2:wrap64 ((i:Int) - 1)=((i - 1:Nat):Int):=by rw [w64]<;>omega
   have g5:(D0 l ((i - 1:Nat):Int)).f0≥(D0 l i).f0:=by
    by_cases h:(D0 l ((i - 1:Nat):Int)).f0<(D0 l i).f0
    ·exact absurd ⟨by omega,by omega,by omega,by omega,fun _=>h⟩ g
    ·omega
   rw [if_neg g1,if_neg g2,if_neg g3,if_neg g4,if_pos (by omega),e2,if_pos (by omega),if_pos (by omega),if_pos (by omega)]
theorem aY8 (l:List Smp):(∃ K,∀ k,K≤k→q39.f k l=some ((if May l then 0 else 1))):=by
 unfold q39.f
 by_cases h:(l.length:Int)>64
 ·simp only [if_pos h]
  rw [if_neg (fun hm=>by have:=hm.1;omega)]
  exact⟨0,fun _ _=>rfl⟩
 ·simp only [if_neg h]
  exact bQ4 l (by omega) l.length 0 (by omega) (fun j hj=>by omega)
def Bd (s:Smp):Prop:=0≤s.f0∧s.f0≤1099511627776 ∧ -1099511627776≤s.f1∧s.f1≤1099511627776
abbrev Rise (l:List Smp):Prop:=l.Pairwise (fun a b=>a.f0<b.f0)
theorem cd5 {s:Smp} {l:List Smp} (h:∀ i,i<(s::l).length→Fits (s::l) i):∀ i,i<l.length→Fits l i:=by
 intro i hi
 have:=h (i+1) (by simp;omega)
 obtain⟨g1,g2,g3,g4,g5⟩:=this
 have e:∀ j:Nat,at_ (s::l) (j+1)=at_ l j:=fun j=>by
  simp only [at_,D0]
  have h1:((j+1:Nat):Int).toNat=j+1:=by omega
  have h2:((j:Nat):Int).toNat=j:=by omega
  rw [h1,h2];rfl
 rw [e] at g1 g2 g3 g4
 refine⟨g1,g2,g3,g4,fun h0=>?_⟩
 have:=g5 (by omega)
 rw [e,show i+1 - 1=(i - 1)+1 by omega,e] at this
 exact this
theorem bU9 (l:List Smp):(∀ i,i<l.length→Fits l i)→(∀ s ∈ l,Bd s)∧Rise l:=by
 induction l with
 |nil=>intro _;exact⟨fun s h=>by simp at h,List.Pairwise.nil⟩
 |cons s l ih =>
  intro h
  obtain⟨h1,h2⟩:=ih (cd5 h)
  have f0:=h 0 (by simp)
  have b0:Bd s:=⟨f0.1,f0.2.1,f0.2.2.1,f0.2.2.2.1⟩
  refine⟨fun x hx=>?_,?_⟩
  ·rcases List.mem_cons.1 hx with rfl|hx
   ·exact b0
   ·exact h1 x hx
  ·refine List.pairwise_cons.2 ⟨fun b hb=>?_,h2⟩
   cases l with
   |nil=>simp at hb
   |cons c l =>
    have f1':s.f0<c.f0:=(h 1 (by simp)).2.2.2.2 (by omega)
    rcases List.mem_cons.1 hb with rfl|hb
    ·exact f1'
    ·exact Int.lt_trans f1' ((List.pairwise_cons.1 h2).1 b hb)
end Go.Proofs.Ytmddmbagehjdeaa.Q
end
section
namespace Go.Proofs.Ytmddmbagehjdeaa.Q
open Go Go.RowKit Go.Proofs.Ytmddmbagehjdeaa.G Go.Proofs.YtmddmbagehjdeaaW.PrintWords Go.Proofs.YtmddmbagehjdeaaW.PrintLast
def pk:Bool→Int→Int→Int→Int→List Smp→List Int
 |_,_,_,_,_,[]=>[]
 |f,lt,lv,st,sv,s::q=>(s.f0 - lt - st)::(s.f1 - lv - sv)::pk false s.f0 s.f1 (if f then st else s.f0 - lt) (if f then sv else s.f1 - lv) q
def B2 (x:Int):Prop := -4398046511104≤x∧x≤4398046511104
theorem bZ7 (l:List Smp) (hm:May l) (d:Nat):∀ (i:Nat) (f:Bool) (acc:List Int) (lt lv st sv:Int),(f=true ↔ i=0)→i+d=l.length→acc.length≤1000+2*i→(-1099511627776≤lt∧lt≤1099511627776)→(-1099511627776≤lv∧lv≤1099511627776)→(-2199023255552≤st∧st≤2199023255552)→(-2199023255552≤sv∧sv≤2199023255552) →
  (∃ K,∀ k,K≤k→q41.l0 k l (l.length:Int) i acc lt lv st sv=some ((acc++pk f lt lv st sv (l.drop i),[],0))):=by
 have h64:=hm.1
 induction d with
 |zero =>
  intro i f acc lt lv st sv hf0 hi ha h1 h2 h3 h4
  refine Ev.succ 0 fun k _=>?_
  simp only [q41.l0]
  rw [if_neg (by omega),List.drop_of_length_le (by omega),pk,List.append_nil]
 |succ d ih =>
  intro i f acc lt lv st sv hf0 hi ha h1 h2 h3 h4
  have hf:=hm.2 i (by omega)
  obtain⟨f1,f2,f3,f4,_⟩:=hf
  simp only [at_] at f1 f2 f3 f4
  have hd:l.drop i=D0 l i::l.drop (i+1):=by rw [al2 l i z67 (by omega)];rfl
  generalize hs:D0 l i=s at hd f1 f2 f3 f4
  have c1:(i:Int)<(l.length:Int):=by clear f1 f2 f3 f4;omega
  have c2:(0:Int)≤(i:Int):=Int.natCast_nonneg i
  have hc:∀ x y:Int,acc.length+[x,y].length<17592186044416:=fun x y=>by
   have:[x,y].length=2:=rfl
   rw [this];clear f1 f2 f3 f4;omega
  have hb2:acc.length+2≤1000+2*(i+1):=by clear f1 f2 f3 f4;omega
  have hb3:∀ x y:Int,(acc++[x,y]).length≤1000+2*(i+1):=fun x y=>by rw [List.length_append];exact hb2
  have e1:wrap64 ((i:Int)+1)=((i+1:Nat):Int):=by rw [w64]<;>omega
  have a1:wrap64 (s.f0 - lt)=s.f0 - lt:=by rw [w64]<;>omega
  have a2:wrap64 (s.f1 - lv)=s.f1 - lv:=by rw [w64]<;>omega
  have a3:wrap64 (s.f0 - lt - st)=s.f0 - lt - st:=by rw [w64]<;>omega
  have a4:wrap64 (s.f1 - lv - sv)=s.f1 - lv - sv:=by rw [w64]<;>omega
  rw [hd,pk]
  cases f with
  |true =>
   have h0:i=0:=hf0.1 rfl
   obtain⟨K,hK⟩:=ih (i+1) false (acc++[s.f0 - lt - st,s.f1 - lv - sv]) s.f0 s.f1 st sv (by simp) (by omega) (hb3 _ _) (by omega) (by omega) h3 h4
   refine Ev.succ K fun k hk=>?_
   have hKk:=hK k hk
   rw [List.append_assoc] at hKk
   simp only [q41.l0]
   rw [if_pos c1,if_pos c2,if_pos c1,hs,a1,a2,a3,a4,Option.bind_some,if_pos (hc _ _),Option.bind_some,if_neg (show ¬(i:Int)>0 by rw [h0];decide),e1]
   simp only [if_true]
   exact hKk
  |false =>
   have h0:¬ i=0:=fun h=>by simp [h] at hf0
   have c0:(i:Int)>0:=by clear f1 f2 f3 f4;omega
   obtain⟨K,hK⟩:=ih (i+1) false (acc++[s.f0 - lt - st,s.f1 - lv - sv]) s.f0 s.f1 (s.f0 - lt) (s.f1 - lv) (by simp) (by omega) (hb3 _ _) (by omega) (by omega) (by omega) (by omega)
   refine Ev.succ K fun k hk=>?_
   have hKk:=hK k hk
   rw [List.append_assoc] at hKk
   simp only [q41.l0]
   rw [if_pos c1,if_pos c2,if_pos c1,hs,a1,a2,a3,a4,Option.bind_some,if_pos (hc _ _),Option.bind_some,if_pos c0,e1]
   simp only [Bool.false_eq_true,if_false]
   exact hKk
def P7 (l:List Smp):List Int:=(l.length:Int)::pk true 0 0 0 0 l
theorem cA2 (l:List Smp):(∃ K,∀ k,K≤k→q41.f k l=some ((if May l then(P7 l,[],0)else([],[],1)))):=by
 obtain⟨K1,h1⟩:=aY8 l
 by_cases hm:May l
 ·obtain⟨K2,h2⟩:=bZ7 l hm l.length 0 true [(l.length:Int)] 0 0 0 0 (by simp) (by omega) (by simp) (by omega) (by omega) (by omega) (by omega)
  refine⟨K1+K2,fun k hk=>?_⟩
  unfold q41.f
  rw [h1 k (by omega),if_pos hm,if_pos hm,Option.bind_some,if_pos rfl]
  exact h2 k (by omega)
 ·refine⟨K1,fun k hk=>?_⟩
  unfold q41.f
  rw [h1 k (by omega),if_neg hm,if_neg hm,Option.bind_some,if_neg (by decide)]
theorem br6 (l:List Smp):∀ f lt lv st sv,(pk f lt lv st sv l).length=2*l.length:=by
 induction l with
 |nil=>intros;rfl
 |cons s l ih=>intro f lt lv st sv;simp only [pk,List.length_cons,ih];omega
theorem pk_b (l:List Smp):(∀ s ∈ l,Bd s)→∀ f lt lv st sv,(-1099511627776≤lt∧lt≤1099511627776)→(-1099511627776≤lv∧lv≤1099511627776)→(-2199023255552≤st∧st≤2199023255552)→(-2199023255552≤sv∧sv≤2199023255552) →
  ∀ x ∈ pk f lt lv st sv l,B2 x:=by
 induction l with
 |nil=>intro _ f lt lv st sv _ _ _ _ x hx;simp [pk] at hx
 |cons s l ih =>
  intro hb f lt lv st sv h1 h2 h3 h4 x hx
  obtain⟨b1,b2,b3,b4⟩:=hb s (by simp)
  simp only [pk] at hx
  rcases List.mem_cons.1 hx with rfl|hx
  ·unfold B2;omega
  rcases List.mem_cons.1 hx with rfl|hx
  ·unfold B2;omega
  refine ih (fun s' h'=>hb s' (by simp [h'])) _ _ _ _ _ (by omega) (by omega) ?_ ?_ x hx<;>split<;>omega
end Go.Proofs.Ytmddmbagehjdeaa.Q
end
section
namespace Go.Proofs.Ytmddmbagehjdeaa.Q
open Go Go.RowKit Go.Proofs.Ytmddmbagehjdeaa.G Go.Proofs.YtmddmbagehjdeaaW.PrintWords Go.Proofs.YtmddmbagehjdeaaW.PrintLast
theorem aA1 (l:List Int) (i:Nat) (h:i<l.length):l.drop i=rd l i::l.drop (i+1):=by rw [al2 l i 0 h];rfl
theorem aT4 (l:List ByteArray) (i:Nat) (h:i<l.length):l.drop i=rdOf ByteArray.empty l i::l.drop (i+1):=by rw [al2 l i ByteArray.empty h];rfl
theorem aY3 (l:List Int) (i:Nat) (h:i<l.length):rd l i ∈ l:=by simp only [rd,Int.toNat_natCast];exact bB5 l i 0 h
theorem cc0 (a b:List Int) (hab:a.length=b.length) (hl:a.length≤9223372036854775807) (d:Nat):∀ i:Nat,i+d=a.length→(∃ K,∀ k,K≤k→q40.l0 k a b i=some ((decide (a.drop i=b.drop i)))):=by
 induction d with
 |zero =>
  intro i hi
  refine Ev.succ 0 fun k _=>?_
  simp only [q40.l0]
  rw [if_neg (by omega),decide_eq_true (by rw [List.drop_of_length_le (by omega),List.drop_of_length_le (by omega)])]
 |succ d ih =>
  intro i hi
  obtain⟨K,hK⟩:=ih (i+1) (by omega)
  refine Ev.succ K fun k hk=>?_
  simp only [q40.l0]
  have e1:wrap64 ((i:Int)+1)=((i+1:Nat):Int):=by rw [w64]<;>omega
  rw [if_pos (by omega),if_pos (by omega),if_pos (by omega),aA1 a i (by omega),aA1 b i (by omega)]
  by_cases h:rd a i=rd b i
  ·rw [if_pos h,e1,hK k hk]
   congr 1
   rw [decide_eq_decide,h]
   simp
  ·rw [if_neg h,decide_eq_false (fun e=>h (List.cons.inj e).1)]
theorem bp7 (a b:List Int) (hl:a.length≤9223372036854775807):(∃ K,∀ k,K≤k→q40.f k a b=some ((decide (a=b)))):=by
 by_cases h:a.length=b.length
 ·obtain⟨K,hK⟩:=cc0 a b h hl a.length 0 (by omega)
  refine⟨K,fun k hk=>?_⟩
  unfold q40.f
  rw [if_pos (by omega)]
  exact hK k hk
 ·refine⟨0,fun k _=>?_⟩
  unfold q40.f
  rw [if_neg (by omega),decide_eq_false (fun e=>h (by rw [e]))]
theorem bt8 (bs:ByteArray) (d:Nat):∀ (i:Nat) (r:List UInt8),i+d=bs.size→ByteArray.toList.loop bs i r=r.reverse++bs.data.toList.drop i:=by
 have hsz:bs.data.toList.length=bs.size:=by rw [Array.length_toList];rfl
 induction d with
 |zero =>
  intro i r hi
  rw [ByteArray.toList.loop,if_neg (by omega),List.drop_of_length_le (by omega),List.append_nil]
 |succ d ih =>
  intro i r hi
  rw [ByteArray.toList.loop,if_pos (by omega),ih (i+1) _ (by omega),List.drop_eq_getElem_cons (by omega:i<bs.data.toList.length),List.reverse_cons,List.append_assoc]
  congr 1
  have e:bs.get! i=bs.data.toList[i]'(by omega):=by
   show(bs.data[i]!)=_
   rw [getElem!_pos bs.data i (by have:bs.data.size=bs.size:=rfl;omega)]
   simp
  rw [e]
  rfl
theorem ao3 (bs:ByteArray):bs.toList=bs.data.toList:=by
 rw [ByteArray.toList,bt8 bs bs.size 0 [] (by omega)]
 simp
theorem as0 (a b:ByteArray):a.toList=b.toList ↔ a=b:=by
 constructor
 ·intro h
  rw [ao3,ao3] at h
  exact ByteArray.ext (Array.ext' h)
 ·rintro rfl;rfl
theorem bo5 (a b:List ByteArray) (hab:a.length=b.length) (hl:a.length≤9223372036854775807) (d:Nat):∀ i:Nat,i+d=a.length→(∃ K,∀ k,K≤k→q43.l0 k a b i=some ((decide (a.drop i=b.drop i)))):=by
 induction d with
 |zero =>
  intro i hi
  refine Ev.succ 0 fun k _=>?_
  simp only [q43.l0]
  rw [if_neg (by omega),decide_eq_true (by rw [List.drop_of_length_le (by omega),List.drop_of_length_le (by omega)])]
 |succ d ih =>
  intro i hi
  obtain⟨K,hK⟩:=ih (i+1) (by omega)
  refine Ev.succ K fun k hk=>?_
  simp only [q43.l0]
  have e1:wrap64 ((i:Int)+1)=((i+1:Nat):Int):=by rw [w64]<;>omega
  rw [if_pos (by omega),if_pos (by omega),if_pos (by omega),aT4 a i (by omega),aT4 b i (by omega)]
  by_cases h:rdOf ByteArray.empty a i=rdOf ByteArray.empty b i
  ·rw [if_pos (by rw [h]),e1,hK k hk]
   congr 1
   rw [decide_eq_decide,h]
   simp
  ·rw [if_neg (fun e=>h ((as0 _ _).1 e)),decide_eq_false (fun e=>h (List.cons.inj e).1)]
theorem bR6 (a b:List ByteArray) (hl:a.length≤9223372036854775807):(∃ K,∀ k,K≤k→q43.f k a b=some ((decide (a=b)))):=by
 by_cases h:a.length=b.length
 ·obtain⟨K,hK⟩:=bo5 a b h hl a.length 0 (by omega)
  refine⟨K,fun k hk=>?_⟩
  unfold q43.f
  rw [if_pos (by omega)]
  exact hK k hk
 ·refine⟨0,fun k _=>?_⟩
  unfold q43.f
  rw [if_neg (by omega),decide_eq_false (fun e=>h (by rw [e]))]
theorem aN7 (a:List Int) (s:List ByteArray) (b:List Int) (t:List ByteArray) (h1:a.length≤9223372036854775807) (h2:s.length≤9223372036854775807) :
  (∃ K,∀ k,K≤k→q50.f k a s b t=some ((decide (a=b∧s=t)))):=by
 obtain⟨K1,hK1⟩:=bp7 a b h1
 obtain⟨K2,hK2⟩:=bR6 s t h2
 refine⟨K1+K2,fun k hk=>?_⟩
 unfold q50.f
 rw [hK1 k (by omega),Option.bind_some]
 by_cases h:a=b
 ·rw [decide_eq_true h,if_pos rfl,hK2 k (by omega),Option.bind_some]
  congr 1
  rw [decide_eq_decide]
  exact⟨fun e=>⟨h,e⟩,fun e=>e.2⟩
 ·rw [decide_eq_false h,if_neg (by simp),decide_eq_false (fun e=>h e.1)]
end Go.Proofs.Ytmddmbagehjdeaa.Q
end
section
namespace Go.Proofs.Ytmddmbagehjdeaa.Q
open Go Go.RowKit Go.Proofs.Ytmddmbagehjdeaa.G Go.Proofs.YtmddmbagehjdeaaW.PrintWords Go.Proofs.YtmddmbagehjdeaaW.PrintLast
def un:Bool→Int→Int→Int→Int→List Int→List Smp
 |f,lt,lv,st,sv,a::b::q=>⟨lt+(st+a),lv+(sv+b)⟩::un false (lt+(st+a)) (lv+(sv+b)) (if f then st else st+a) (if f then sv else sv+b) q
 |_,_,_,_,_,_=>[]
theorem cU0 (l:List Smp):∀ f lt lv st sv,un f lt lv st sv (pk f lt lv st sv l)=l:=by
 induction l with
 |nil=>intros;rfl
 |cons s l ih =>
  intro f lt lv st sv
  have e1:lt+(st+(s.f0 - lt - st))=s.f0:=by omega
  have e2:lv+(sv+(s.f1 - lv - sv))=s.f1:=by omega
  have e3:st+(s.f0 - lt - st)=s.f0 - lt:=by omega
  have e4:sv+(s.f1 - lv - sv)=s.f1 - lv:=by omega
  simp only [pk,un]
  rw [e1,e2,e3,e4,ih]
theorem cZ6 (n:Nat):∀ (q:List Int),q.length=2*n→∀ f lt lv st sv,pk f lt lv st sv (un f lt lv st sv q)=q:=by
 induction n with
 |zero=>intro q hq;obtain rfl:=List.eq_nil_of_length_eq_zero (by simpa using hq);intros;rfl
 |succ n ih =>
  intro q hq f lt lv st sv
  match q,hq with
  |a::b::q,hq =>
   have e1:lt+(st+a) - lt - st=a:=by omega
   have e2:lv+(sv+b) - lv - sv=b:=by omega
   have e3:lt+(st+a) - lt=st+a:=by omega
   have e4:lv+(sv+b) - lv=sv+b:=by omega
   simp only [un,pk]
   rw [e1,e2,e3,e4,ih q (by simp at hq;omega)]
theorem cJ1 (n:Nat):∀ (q:List Int),q.length=2*n→∀ f lt lv st sv,(un f lt lv st sv q).length=n:=by
 induction n with
 |zero=>intro q hq;obtain rfl:=List.eq_nil_of_length_eq_zero (by simpa using hq);intros;rfl
 |succ n ih =>
  intro q hq f lt lv st sv
  match q,hq with
  |a::b::q,hq =>
   simp only [un,List.length_cons]
   rw [ih q (by simp at hq;omega)]
def urun:List Smp×Smp×Smp→List Int→List Smp×Smp×Smp
 |z,a::b::q=>urun (I8 z a b) q
 |z,_=>z
theorem cg6 (n:Nat):∀ (q:List Int),q.length=2*n→∀ z,∃ r,(urun z q).1=z.1++r:=by
 induction n with
 |zero=>intro q hq z;obtain rfl:=List.eq_nil_of_length_eq_zero (by simpa using hq);exact⟨[],by simp [urun]⟩
 |succ n ih =>
  intro q hq z
  match q,hq with
  |a::b::q,hq =>
   obtain⟨r,hr⟩:=ih q (by simp at hq;omega) (I8 z a b)
   exact⟨(I8 z a b).2.1::r,by simp only [urun];rw [hr];simp [I8]⟩
def Bw (s:Smp):Prop := -1099511627776≤s.f0∧s.f0≤1099511627776 ∧ -1099511627776≤s.f1∧s.f1≤1099511627776
theorem cv6 (n:Nat):∀ (q:List Int),q.length=2*n→(∀ x ∈ q,B2 x)→∀ (f:Bool) (acc:List Smp) (lt lv st sv:Int),(f=true ↔ acc=[])→Bw ⟨lt,lv⟩ →
  (-2199023255552≤st∧st≤2199023255552)→(-2199023255552≤sv∧sv≤2199023255552) →
  ((∀ s ∈ un f lt lv st sv q,Bw s)∨(∀ s ∈ (urun (acc,⟨lt,lv⟩,⟨st,sv⟩) q).1,Bw s)) →
  (urun (acc,⟨lt,lv⟩,⟨st,sv⟩) q).1=acc++un f lt lv st sv q:=by
 induction n with
 |zero=>intro q hq _ f acc lt lv st sv _ _ _ _ _;obtain rfl:=List.eq_nil_of_length_eq_zero (by simpa using hq);simp [urun,un]
 |succ n ih =>
  intro q hq hb f acc lt lv st sv hf hl hs1 hs2 H
  match q,hq with
  |a::b::q,hq =>
   obtain⟨a1,a2⟩:=hb a (by simp)
   obtain⟨b1,b2⟩:=hb b (by simp)
   obtain⟨l1,l2,l3,l4⟩:=hl
   simp only at l1 l2 l3 l4
   have w1:wrap64 (st+a)=st+a:=by rw [w64]<;>omega
   have w2:wrap64 (sv+b)=sv+b:=by rw [w64]<;>omega
   have w3:wrap64 (lt+(st+a))=lt+(st+a):=by rw [w64]<;>omega
   have w4:wrap64 (lv+(sv+b))=lv+(sv+b):=by rw [w64]<;>omega
   have hq':q.length=2*n:=by simp at hq;omega
   have st1:I8 (acc,⟨lt,lv⟩,⟨st,sv⟩) a b=(acc++[⟨lt+(st+a),lv+(sv+b)⟩],⟨lt+(st+a),lv+(sv+b)⟩,⟨if f then st else st+a,if f then sv else sv+b⟩):=by
    simp only [I8]
    rw [w1,w2,w3,w4]
    cases f with
    |true =>
     obtain rfl:=hf.1 rfl
     rw [if_neg (by simp)]
     rfl
    |false =>
     have:acc≠[]:=fun h=>by simp [h] at hf
     rw [if_pos (by have:=List.length_pos_iff.2 this;omega)]
     rfl
   clear w1 w2 w3 w4
   have hn:Bw ⟨lt+(st+a),lv+(sv+b)⟩:=by
    rcases H with H|H
    ·exact H _ (by simp [un])
    ·refine H _ ?_
     simp only [urun]
     rw [st1]
     obtain⟨r,hr⟩:=cg6 n q hq' (acc++[⟨lt+(st+a),lv+(sv+b)⟩],⟨lt+(st+a),lv+(sv+b)⟩,⟨if f then st else st+a,if f then sv else sv+b⟩)
     rw [hr]
     simp
   have hn':=hn
   obtain⟨n1,n2,n3,n4⟩:=hn'
   simp only at n1 n2 n3 n4
   simp only [urun,un]
   rw [st1,ih q hq' (fun x hx=>hb x (by simp [hx])) false _ _ _ _ _ (by simp) hn (by split<;>omega) (by split<;>omega) ?_]
   ·simp
   ·rcases H with H|H
    ·exact .inl fun s hs=>H s (by simp only [un];exact List.mem_cons_of_mem _ hs)
    ·right
     intro s hs
     refine H s ?_
     simp only [urun]
     rw [st1]
     exact hs
theorem bJ7 (nums:List Int) (m:Nat) (hm:nums.length=2*m+1):(Z8 nums (List.finRange m)).1=(urun ([],z67,z67) (nums.drop 1)).1:=by
 have key:∀ (d j:Nat),j+d=m→∀ z,((List.finRange m).drop j).foldl (fun z i=>I8 z (numA nums i.val) (numB nums i.val)) z=urun z (nums.drop (1+2*j)):=by
  intro d
  induction d with
  |zero =>
   intro j hj z
   rw [List.drop_of_length_le (by simp;omega),List.drop_of_length_le (by omega)]
   rfl
  |succ d ih =>
   intro j hj z
   have e:(List.finRange m).drop j=⟨j,by omega⟩::(List.finRange m).drop (j+1):=by
    rw [List.drop_eq_getElem_cons (by simp;omega)]
    simp
   rw [e,List.foldl_cons,ih (j+1) (by omega),aA1 nums (1+2*j) (by omega),aA1 nums (1+2*j+1) (by omega)]
   simp only [urun]
   unfold numA numB
   rw [show 1+2*(j+1)=1+2*j+1+1 by omega,show 2+2*j=1+2*j+1 by omega]
 have:=key m 0 (by omega) ([],z67,z67)
 unfold Z8
 simpa using congrArg (·.1) this
theorem bx9 (nums:List Int) (m:Nat) (hm:nums.length=2*m+1):q30.good nums=true ↔ ∀ x ∈ nums.drop 1,B2 x:=by
 have h2:nums.length / 2=m:=by omega
 unfold q30.good
 rw [h2,List.all_eq_true]
 have inb:∀ x,inB x=true ↔ B2 x:=fun x=>by unfold inB B2;simp
 constructor
 ·intro h x hx
  obtain⟨i,hi,rfl⟩:=List.mem_iff_getElem.1 hx
  rw [List.getElem_drop]
  have hi':1+i<nums.length:=by simp at hi;omega
  have hj:=h ⟨i / 2,by omega⟩ (List.mem_finRange _)
  unfold ae8 at hj
  simp only [Bool.and_eq_true] at hj
  have hr:∀ t:Nat,(ht:t<nums.length)→rd nums (t:Nat)=nums[t]:=fun t ht=>by simp [rd,List.getD_eq_getElem?_getD,ht]
  rcases Nat.mod_two_eq_zero_or_one i with h0|h0
  ·have:=(inb _).1 hj.1
   unfold numA at this
   rw [hr _ (by show 1+2*(i / 2)<_;omega)] at this
   have e:1+2*(i / 2)=1+i:=by omega
   simpa only [e] using this
  ·have:=(inb _).1 hj.2
   unfold numB at this
   rw [hr _ (by show 2+2*(i / 2)<_;omega)] at this
   have e:2+2*(i / 2)=1+i:=by omega
   simpa only [e] using this
 ·intro h j _
  have hj:=j.isLt
  have hr:∀ t:Nat,(ht:1+t<nums.length)→B2 (rd nums ((1+t:Nat):Nat)):=fun t ht=>by
   have:=aY3 (nums.drop 1) t (by simp;omega)
   have e:rd (nums.drop 1) (t:Nat)=rd nums ((1+t:Nat):Nat):=by simp only [rd,Int.toNat_natCast];simp [List.getD_eq_getElem?_getD,Nat.add_comm]
   rw [←e]
   exact h _ this
  unfold ae8 numA numB
  simp only [Bool.and_eq_true]
  refine⟨(inb _).2 (hr (2*j.val) (by omega)),(inb _).2 ?_⟩
  have:=hr (2*j.val+1) (by omega)
  rwa [show 1+(2*j.val+1)=2+2*j.val by omega] at this
def RelN (l:List Smp) (i:Nat) (f:Bool) (lt lv st sv:Int):Prop :=
 (i=0→f=true∧lt=0∧lv=0∧st=0∧sv=0) ∧
 (0<i→f=false∧lt=(at_ l (i - 1)).f0∧lv=(at_ l (i - 1)).f1)∧(i=1→st=0∧sv=0) ∧
 (1<i→st=(at_ l (i - 1)).f0 - (at_ l (i - 2)).f0∧sv=(at_ l (i - 1)).f1 - (at_ l (i - 2)).f1)
theorem RelN.next {l:List Smp} {i:Nat} {f:Bool} {lt lv st sv:Int} (h:RelN l i f lt lv st sv):RelN l (i+1) false (at_ l i).f0 (at_ l i).f1 (if f then st else(at_ l i).f0 - lt) (if f then sv else(at_ l i).f1 - lv):=by
 obtain⟨h0,h1,h2,h3⟩:=h
 refine⟨fun h=>by omega,fun _=>⟨rfl,rfl,rfl⟩,fun h=>?_,fun h=>?_⟩
 ·obtain⟨rfl,_,_,e1,e2⟩:=h0 (by omega)
  exact⟨e1,e2⟩
 ·obtain⟨rfl,e1,e2⟩:=h1 (by omega)
  rw [e1,e2]
  exact⟨rfl,rfl⟩
theorem ca4 (l:List Smp) (hm:May l) (d:Nat):∀ (i:Nat) (f:Bool) (acc:List Int) (lt lv st sv:Int),RelN l i f lt lv st sv→i+d=l.length→acc.length≤1000+2*i →
  (∃ K,∀ k,K≤k→q22.l0 k l acc i=some ((acc++pk f lt lv st sv (l.drop i)))):=by
 have h64:=hm.1
 induction d with
 |zero =>
  intro i f acc lt lv st sv hr hi ha
  refine Ev.succ 0 fun k _=>?_
  simp only [q22.l0]
  rw [if_neg (by omega),List.drop_of_length_le (by omega),pk,List.append_nil]
 |succ d ih =>
  intro i f acc lt lv st sv hr hi ha
  have hf:=hm.2 i (by omega)
  obtain⟨f1,f2,f3,f4,_⟩:=hf
  have hrn:=hr.next
  obtain⟨r0,r1,r2,r3⟩:=hr
  have hd:l.drop i=at_ l i::l.drop (i+1):=by rw [al2 l i z67 (by omega)];rfl
  have hp1:0<i→(0≤(at_ l (i - 1)).f0∧(at_ l (i - 1)).f0≤1099511627776 ∧ -1099511627776≤(at_ l (i - 1)).f1∧(at_ l (i - 1)).f1≤1099511627776):=fun h=>by
   obtain⟨a,b,c,d,_⟩:=hm.2 (i - 1) (by omega);exact⟨a,b,c,d⟩
  have hp2:1<i→(0≤(at_ l (i - 2)).f0∧(at_ l (i - 2)).f0≤1099511627776 ∧ -1099511627776≤(at_ l (i - 2)).f1∧(at_ l (i - 2)).f1≤1099511627776):=fun h=>by
   obtain⟨a,b,c,d,_⟩:=hm.2 (i - 2) (by omega);exact⟨a,b,c,d⟩
  have c1:(i:Int)<(l.length:Int):=by omega
  have c2:(0:Int)≤(i:Int):=Int.natCast_nonneg i
  have hc:∀ x y:Int,acc.length+[x,y].length<17592186044416:=fun x y=>by
   have:[x,y].length=2:=rfl
   rw [this];omega
  have e1:wrap64 ((i:Int)+1)=((i+1:Nat):Int):=by rw [w64]<;>omega
  have hb3:∀ x y:Int,(acc++[x,y]).length≤1000+2*(i+1):=fun x y=>by rw [List.length_append];simp only [List.length_cons,List.length_nil];omega
  obtain⟨K,hK⟩:=ih (i+1) false (acc++[(at_ l i).f0 - lt - st,(at_ l i).f1 - lv - sv]) _ _ _ _ hrn (by omega) (hb3 _ _)
  refine Ev.succ K fun k hk=>?_
  have hKk:=hK k hk
  rw [List.append_assoc] at hKk
  rw [hd,pk]
  simp only [q22.l0]
  rw [if_pos c1,if_pos c2]
  clear hK hrn ih
  have ea:D0 l i=at_ l i:=rfl
  rw [ea]
  generalize at_ l i=s at hKk f1 f2 f3 f4 ⊢
  by_cases g0:0<i
  ·have e2:wrap64 ((i:Int) - 1)=((i - 1:Nat):Int):=by rw [w64]<;>omega
   obtain⟨b1,b2,b3,b4⟩:=hp1 g0
   obtain⟨rfl,q1,q2⟩:=r1 g0
   rw [if_pos (show(i:Int)>0 by omega),e2,if_pos (by omega),if_pos (by omega)]
   have eb:D0 l ((i - 1:Nat):Int)=at_ l (i - 1):=rfl
   rw [eb]
   generalize at_ l (i - 1)=p at b1 b2 b3 b4 q1 q2 r3 ⊢
   have v1:wrap64 (s.f0 - p.f0)=s.f0 - p.f0:=by rw [w64]<;>omega
   have v2:wrap64 (s.f1 - p.f1)=s.f1 - p.f1:=by rw [w64]<;>omega
   rw [v1,v2]
   by_cases g1:1<i
   ·have e3:wrap64 ((i:Int) - 2)=((i - 2:Nat):Int):=by rw [w64]<;>omega
    obtain⟨d1,d2,d3,d4⟩:=hp2 g1
    obtain⟨q3,q4⟩:=r3 g1
    rw [if_pos (show(i:Int)>1 by omega),e3,if_pos (by omega),if_pos (by omega)]
    have ec:D0 l ((i - 2:Nat):Int)=at_ l (i - 2):=rfl
    rw [ec]
    generalize at_ l (i - 2)=r at d1 d2 d3 d4 q3 q4 ⊢
    have v3:wrap64 (p.f0 - r.f0)=p.f0 - r.f0:=by rw [w64]<;>omega
    have v4:wrap64 (p.f1 - r.f1)=p.f1 - r.f1:=by rw [w64]<;>omega
    have v5:wrap64 (s.f0 - p.f0 - (p.f0 - r.f0))=s.f0 - p.f0 - (p.f0 - r.f0):=by rw [w64]<;>omega
    have v6:wrap64 (s.f1 - p.f1 - (p.f1 - r.f1))=s.f1 - p.f1 - (p.f1 - r.f1):=by rw [w64]<;>omega
    rw [v3,v4,v5,v6,Option.bind_some,if_pos (hc _ _),e1]
    rw [q1,q2,q3,q4] at hKk
    rw [q1,q2,q3,q4]
    exact hKk
   ·obtain⟨q3,q4⟩:=r2 (by omega)
    rw [if_neg (show ¬(i:Int)>1 by omega),Option.bind_some,if_pos (hc _ _),e1]
    rw [q1,q2,q3,q4,Int.sub_zero,Int.sub_zero] at hKk
    rw [q1,q2,q3,q4,Int.sub_zero,Int.sub_zero]
    exact hKk
  ·obtain⟨rfl,rfl,rfl,rfl,rfl⟩:=r0 (by omega)
   rw [if_neg (show ¬(i:Int)>0 by omega),if_neg (show ¬(i:Int)>1 by omega),Option.bind_some,if_pos (hc _ _),e1]
   rw [Int.sub_zero,Int.sub_zero,Int.sub_zero,Int.sub_zero] at hKk
   rw [Int.sub_zero,Int.sub_zero,Int.sub_zero,Int.sub_zero]
   exact hKk
theorem bn2 (l:List Smp) (hm:May l):(∃ K,∀ k,K≤k→q22.f k l=some ((P7 l))):=by
 obtain⟨K,hK⟩:=ca4 l hm l.length 0 true [(l.length:Int)] 0 0 0 0 ⟨fun _=>⟨rfl,rfl,rfl,rfl,rfl⟩,fun h=>by omega,fun h=>by omega,fun h=>by omega⟩ (by omega) (by simp)
 exact⟨K,fun k hk=>by unfold q22.f;exact hK k hk⟩
theorem aZ6 (x y:List Smp) (j:Nat) (h:j<x.length):at_ (x++y) j=at_ x j:=by
 simp only [at_,D0,Int.toNat_natCast]
 simp [List.getD_eq_getElem?_getD,List.getElem?_append_left h]
theorem cG2 (x:List Smp) (s:Smp):at_ (x++[s]) x.length=s:=by
 simp only [at_,D0,Int.toNat_natCast]
 simp [List.getD_eq_getElem?_getD]
theorem cy1 (x y:List Smp) (h:May (x++y)):May x:=by
 refine⟨by have:=h.1;simp at this;omega,fun i hi=>?_⟩
 obtain⟨a,b,c,d,e⟩:=h.2 i (by simp;omega)
 rw [aZ6 x y i hi] at a b c d e
 refine⟨a,b,c,d,fun h0=>?_⟩
 have:=e h0
 rwa [aZ6 x y (i - 1) (by omega)] at this
theorem cw3:May ([]:List Smp):=⟨by simp,fun i hi=>by simp at hi⟩
theorem RelN.app {l:List Smp} {i:Nat} {f:Bool} {lt lv st sv:Int} (s:Smp) (h:RelN l i f lt lv st sv) (hi:i=l.length):RelN (l++[s]) (i+1) false s.f0 s.f1 (if f then st else s.f0 - lt) (if f then sv else s.f1 - lv):=by
 have h':RelN (l++[s]) i f lt lv st sv:=by
  obtain⟨h0,h1,h2,h3⟩:=h
  refine⟨h0,fun g=>?_,h2,fun g=>?_⟩
  ·rw [aZ6 _ _ _ (by omega)];exact h1 g
  ·rw [aZ6 _ _ _ (by omega),aZ6 _ _ _ (by omega)];exact h3 g
 have:=h'.next
 rw [hi,cG2] at this
 rw [hi]
 exact this
theorem aT3 (L:List Smp) (h:May L):∀ x ∈ (P7 L).drop 1,B2 x:=by
 have:=(bU9 L h.2).1
 exact pk_b L this true 0 0 0 0 (by omega) (by omega) (by omega) (by omega)
noncomputable def resR (L : List Smp) (nums : List Int) : List Smp × Bool := by
 classical exact if May L∧P7 L=nums then(L,true)else([],false)
theorem aM7 {L:List Smp} {nums:List Int} (h:¬(May L∧P7 L=nums)):resR L nums=([],false):=by unfold resR;rw [if_neg h]
theorem ba8 {L:List Smp} {nums:List Int} (h:May L∧P7 L=nums):resR L nums=(L,true):=by unfold resR;rw [if_pos h]
theorem bi8 {x:Int} {l:List Int} {i:Nat} (h:x ∈ l.drop i) (hi:1≤i):x ∈ l.drop 1:=by
 obtain⟨j,rfl⟩:∃ j,i=1+j:=⟨i - 1,by omega⟩
 rw [←List.drop_drop] at h
 exact List.mem_of_mem_drop h
theorem cp8 (nums:List Int) (hn:nums.length≤129) (texts:List ByteArray) (d:Nat):∀ (i:Nat) (acc:List Smp) (f:Bool) (lt lv st sv:Int),RelN acc acc.length f lt lv st sv→i=1+2*acc.length→nums.length≤i+2*d→May acc →
  (∃ K,∀ k,K≤k→q7.l0 k acc i nums texts=some ((resR (acc++un f lt lv st sv (nums.drop i)) nums))):=by
 induction d with
 |zero =>
  intro i acc f lt lv st sv hr hi hd hm
  have e:nums.drop i=[]:=List.drop_of_length_le (by omega)
  rw [e,show un f lt lv st sv []=[] by simp [un],List.append_nil]
  have e1:wrap64 ((i:Int)+1)=((i+1:Nat):Int):=by rw [w64]<;>have:=hm.1<;>omega
  obtain⟨K,hK⟩:=bn2 acc hm
  obtain⟨K2,hK2⟩:=bp7 (P7 acc) nums (by have:=hm.1;simp [P7,br6];omega)
  refine Ev.succ (K+K2) fun k hk=>?_
  simp only [q7.l0]
  rw [e1,if_neg (by omega),hK k (by omega),Option.bind_some,hK2 k (by omega),Option.bind_some]
  by_cases h:P7 acc=nums
  ·rw [decide_eq_true h,if_pos rfl,ba8 ⟨hm,h⟩]
  ·rw [decide_eq_false h,if_neg (by simp),aM7 (fun h'=>h h'.2)]
 |succ d ih =>
  intro i acc f lt lv st sv hr hi hd hm
  have h64:=hm.1
  have e1:wrap64 ((i:Int)+1)=((i+1:Nat):Int):=by rw [w64]<;>omega
  by_cases hlt:i+1<nums.length
  ·have hdr:nums.drop i=rd nums i::rd nums ((i+1:Nat):Nat)::nums.drop (i+2):=by rw [aA1 nums i (by omega),aA1 nums (i+1) (by omega)]
   have ma:rd nums i ∈ nums.drop 1:=by
    have:rd nums i ∈ nums.drop i:=by rw [hdr];simp
    exact bi8 this (by omega)
   have mb:rd nums ((i+1:Nat):Nat) ∈ nums.drop 1:=by
    have:rd nums ((i+1:Nat):Nat) ∈ nums.drop i:=by rw [hdr];simp
    exact bi8 this (by omega)
   have far:∀ L:List Smp,¬(B2 (rd nums i)∧B2 (rd nums ((i+1:Nat):Nat)))→resR L nums=([],false):=fun L hno=>aM7 fun h=>hno ⟨aT3 L h.1 _ (by rw [h.2];exact ma),aT3 L h.1 _ (by rw [h.2];exact mb)⟩
   rw [hdr]
   generalize hA:rd nums i=a at far
   generalize hB:rd nums ((i+1:Nat):Nat)=b at far
   clear ma mb hdr
   have bad:∀ L:List Smp,¬(B2 a∧B2 b)→(∃ K,∀ k,K≤k→q7.j2 k acc i a b true nums texts=some ((resR L nums))):=fun L hno=>Ev.succ 0 fun k _=>by
    simp only [q7.j2]
    rw [if_pos trivial,far L hno]
   have start:∀ (R:List Smp×Bool) (c:Bool),(∃ K,∀ k,K≤k→q7.j2 k acc i a b c nums texts=some (R))→(if a>8796093022208 then true else if a < -8796093022208 then true else if b>8796093022208 then true else decide (b < -8796093022208))=c→(∃ K,∀ k,K≤k→q7.l0 k acc i nums texts=some (R)):=fun R c ⟨K,hK⟩ hc=>Ev.succ K fun k hk=>by
    have hKk:=hK k hk
    simp only [q7.l0]
    rw [e1,if_pos (by omega),if_pos (by omega),if_pos (by omega),if_pos (by omega),hA,hB]
    rw [←hc] at hKk
    clear hc hK
    by_cases g1:a>8796093022208
    ·rw [if_pos g1] at hKk ⊢;exact hKk
    rw [if_neg g1] at hKk ⊢
    by_cases g2:a < -8796093022208
    ·rw [if_pos g2] at hKk ⊢;exact hKk
    rw [if_neg g2] at hKk ⊢
    by_cases g3:b>8796093022208
    ·rw [if_pos g3] at hKk ⊢;exact hKk
    rw [if_neg g3] at hKk ⊢
    exact hKk
   by_cases hbd:(-8796093022208≤a∧a≤8796093022208)∧(-8796093022208≤b∧b≤8796093022208)
   ·obtain⟨⟨a1,a2⟩,b1,b2⟩:=hbd
    refine start _ false ?_ (by rw [if_neg (by omega),if_neg (by omega),if_neg (by omega),decide_eq_false (by omega)])
    clear start bad far
    have hs0:RelN (acc++[⟨lt+(st+a),lv+(sv+b)⟩]) (acc.length+1) false (lt+(st+a)) (lv+(sv+b)) (if f then st else st+a) (if f then sv else sv+b):=by
     have:=hr.app ⟨lt+(st+a),lv+(sv+b)⟩ rfl
     have q1:lt+(st+a) - lt=st+a:=by omega
     have q2:lv+(sv+b) - lv=sv+b:=by omega
     rw [q1,q2] at this
     exact this
    have eL:acc++un f lt lv st sv (a::b::nums.drop (i+2))=(acc++[⟨lt+(st+a),lv+(sv+b)⟩])++un false (lt+(st+a)) (lv+(sv+b)) (if f then st else st+a) (if f then sv else sv+b) (nums.drop (i+2)):=by simp [un]
    rw [eL]
    obtain⟨s,hs⟩:∃ s:Smp,s=⟨lt+(st+a),lv+(sv+b)⟩:=⟨_,rfl⟩
    have e2:wrap64 ((i:Int)+2)=((i+2:Nat):Int):=by rw [w64]<;>omega
    obtain⟨R,hR⟩:∃ R,R=resR ((acc++[s])++un false (lt+(st+a)) (lv+(sv+b)) (if f then st else st+a) (if f then sv else sv+b) (nums.drop (i+2))) nums:=⟨_,rfl⟩
    have T:(∃ K,∀ k,K≤k→(q36.f k (acc++[s])).bind (fun t=>if t=true then q7.l0 k (acc++[s]) (wrap64 ((i:Int)+2)) nums texts else some ([],false))=some (R)):=by
     obtain⟨K,hK⟩:=cH3 (acc++[s]) (by unfold maxLen;simp;omega)
     by_cases hmay:May (acc++[s])
     ·obtain⟨K2,hK2⟩:=ih (i+2) (acc++[s]) _ _ _ _ _ (by rw [hs,List.length_append];exact hs0) (by simp;omega) (by omega) hmay
      refine⟨K+K2,fun k hk=>?_⟩
      rw [hK k (by omega),Option.bind_some,decide_eq_true hmay,if_pos rfl,e2,hK2 k (by omega),hR]
     ·refine⟨K,fun k hk=>?_⟩
      rw [hK k (by omega),Option.bind_some,decide_eq_false hmay,if_neg (by simp),hR,aM7 (fun h=>hmay (cy1 _ _ h.1))]
    rw [←hs,←hR]
    clear hR eL hs0 ih
    obtain⟨K,hK⟩:=T
    obtain⟨r0,r1,r2,r3⟩:=hr
    have hc:acc.length<8796093022208:=by omega
    refine Ev.succ (K+1) fun k hk=>?_
    obtain⟨k,rfl⟩:∃ k',k=k'+1:=⟨k - 1,by omega⟩
    have hKk:=hK k (by omega)
    simp only [q7.j2]
    rw [if_neg (by simp)]
    by_cases g0:0<acc.length
    ·have e3:wrap64 ((acc.length:Int) - 1)=((acc.length - 1:Nat):Int):=by rw [w64]<;>omega
     obtain⟨_,q1,q2⟩:=r1 g0
     obtain⟨p1,p2,p3,p4,_⟩:=hm.2 (acc.length - 1) (by omega)
     rw [if_pos (show(acc.length:Int)>0 by omega),e3,if_pos (by omega),if_pos (by omega)]
     have eb:D0 acc ((acc.length - 1:Nat):Int)=at_ acc (acc.length - 1):=rfl
     rw [eb]
     simp only [q7.j3]
     by_cases g1:1<acc.length
     ·have e4:wrap64 ((acc.length:Int) - 2)=((acc.length - 2:Nat):Int):=by rw [w64]<;>omega
      obtain⟨q3,q4⟩:=r3 g1
      obtain⟨d1,d2,d3,d4,_⟩:=hm.2 (acc.length - 2) (by omega)
      rw [if_pos (show(acc.length:Int)>1 by omega),e3,if_pos (by omega),if_pos (by omega),e4,if_pos (by omega),if_pos (by omega),if_pos hc,eb]
      have ec:D0 acc ((acc.length - 2:Nat):Int)=at_ acc (acc.length - 2):=rfl
      rw [ec]
      generalize at_ acc (acc.length - 1)=p at p1 p2 p3 p4 q1 q2 q3 q4 ⊢
      generalize at_ acc (acc.length - 2)=r at d1 d2 d3 d4 q3 q4 ⊢
      have v1:wrap64 (a+p.f0)=a+p.f0:=by rw [w64]<;>omega
      have v2:wrap64 (b+p.f1)=b+p.f1:=by rw [w64]<;>omega
      have v3:wrap64 (a+p.f0+p.f0)=a+p.f0+p.f0:=by rw [w64]<;>omega
      have v4:wrap64 (b+p.f1+p.f1)=b+p.f1+p.f1:=by rw [w64]<;>omega
      have v5:wrap64 (a+p.f0+p.f0 - r.f0)=a+p.f0+p.f0 - r.f0:=by rw [w64]<;>omega
      have v6:wrap64 (b+p.f1+p.f1 - r.f1)=b+p.f1+p.f1 - r.f1:=by rw [w64]<;>omega
      rw [v1,v2,v3,v4,v5,v6]
      clear v1 v2 v3 v4 v5 v6
      have es:(⟨a+p.f0+p.f0 - r.f0,b+p.f1+p.f1 - r.f1⟩:Smp)=s:=by
       rw [hs,q1,q2,q3,q4]
       congr 1<;>omega
      rw [es,Option.bind_some]
      exact hKk
     ·obtain⟨q3,q4⟩:=r2 (by omega)
      rw [if_neg (show ¬(acc.length:Int)>1 by omega),if_pos hc]
      generalize at_ acc (acc.length - 1)=p at p1 p2 p3 p4 q1 q2 ⊢
      have v1:wrap64 (a+p.f0)=a+p.f0:=by rw [w64]<;>omega
      have v2:wrap64 (b+p.f1)=b+p.f1:=by rw [w64]<;>omega
      rw [v1,v2]
      clear v1 v2
      have es:(⟨a+p.f0,b+p.f1⟩:Smp)=s:=by
       rw [hs,q1,q2,q3,q4]
       congr 1<;>omega
      rw [es,Option.bind_some]
      exact hKk
    ·obtain⟨_,q1,q2,q3,q4⟩:=r0 (by omega)
     rw [if_neg (show ¬(acc.length:Int)>0 by omega)]
     simp only [q7.j3]
     rw [if_neg (show ¬(acc.length:Int)>1 by omega),if_pos hc]
     have es:(⟨a,b⟩:Smp)=s:=by
      rw [hs,q1,q2,q3,q4]
      congr 1<;>omega
     rw [es,Option.bind_some]
     exact hKk
   ·refine start _ true (bad _ (by unfold B2;omega)) ?_
    clear start bad far
    by_cases g1:a>8796093022208
    ·rw [if_pos g1]
    by_cases g2:a < -8796093022208
    ·rw [if_neg g1,if_pos g2]
    by_cases g3:b>8796093022208
    ·rw [if_neg g1,if_neg g2,if_pos g3]
    rw [if_neg g1,if_neg g2,if_neg g3,decide_eq_true (by omega)]
  ·have e:un f lt lv st sv (nums.drop i)=[]:=by
    have:(nums.drop i).length≤1:=by simp;omega
    match hq:nums.drop i,this with
    |[],_=>simp [un]
    |[x],_=>simp [un]
    |_::_::_,h=>simp at h
   rw [e,List.append_nil]
   obtain⟨K,hK⟩:=bn2 acc hm
   obtain⟨K2,hK2⟩:=bp7 (P7 acc) nums (by simp [P7,br6];omega)
   refine Ev.succ (K+K2) fun k hk=>?_
   simp only [q7.l0]
   rw [e1,if_neg (by omega),hK k (by omega),Option.bind_some,hK2 k (by omega),Option.bind_some]
   by_cases h:P7 acc=nums
   ·rw [decide_eq_true h,if_pos rfl,ba8 ⟨hm,h⟩]
   ·rw [decide_eq_false h,if_neg (by simp),aM7 (fun h'=>h h'.2)]
def Dat (nums:List Int) (texts:List ByteArray):Prop:=texts.length=0∧May (un true 0 0 0 0 (nums.drop 1))∧P7 (un true 0 0 0 0 (nums.drop 1))=nums
noncomputable instance (nums : List Int) (texts : List ByteArray) : Decidable (Dat nums texts) := Classical.propDecidable _
theorem Dat.len {nums:List Int} {texts:List ByteArray} (h:Dat nums texts):∃ m,m≤64∧nums.length=2*m+1∧rd nums 0=(m:Int)∧(un true 0 0 0 0 (nums.drop 1)).length=m:=by
 obtain⟨_,h2,h3⟩:=h
 refine⟨_,h2.1,?_,?_,rfl⟩
 ·rw [←congrArg List.length h3];simp [P7,br6]
 ·generalize un true 0 0 0 0 (nums.drop 1)=L at h3 ⊢
  rw [←h3];rfl
theorem cI7 (nums:List Int) (texts:List ByteArray):(∃ K,∀ k,K≤k→q7.f k nums texts=some ((if Dat nums texts then(un true 0 0 0 0 (nums.drop 1),true)else([],false)))):=by
 have no:(0<texts.length∨129<nums.length∨nums.length<1)→¬ Dat nums texts:=fun h hd=>by
  obtain⟨m,h1,h2,_⟩:=hd.len
  have:=hd.1
  omega
 have j:∀ k,q7.j0 (k+1) true nums texts=some ([],false):=fun k=>by simp only [q7.j0];rw [if_pos trivial]
 by_cases g1:0<texts.length
 ·rw [if_neg (no (.inl g1))]
  refine⟨1,fun k hk=>?_⟩
  obtain⟨k,rfl⟩:∃ k',k=k'+1:=⟨k - 1,by omega⟩
  unfold q7.f
  rw [if_pos (by omega),j]
 by_cases g2:129<nums.length
 ·rw [if_neg (no (.inr (.inl g2)))]
  refine⟨1,fun k hk=>?_⟩
  obtain⟨k,rfl⟩:∃ k',k=k'+1:=⟨k - 1,by omega⟩
  unfold q7.f
  rw [if_neg (by omega),if_pos (by omega),j]
 by_cases g3:nums.length<1
 ·rw [if_neg (no (.inr (.inr g3)))]
  refine⟨1,fun k hk=>?_⟩
  obtain⟨k,rfl⟩:∃ k',k=k'+1:=⟨k - 1,by omega⟩
  unfold q7.f
  rw [if_neg (by omega),if_neg (by omega),decide_eq_true (by omega),j]
 obtain⟨K,hK⟩:=cp8 nums (by omega) texts 65 1 [] true 0 0 0 0 ⟨fun _=>⟨rfl,rfl,rfl,rfl,rfl⟩,fun h=>by simp at h,fun h=>by simp at h,fun h=>by simp at h⟩ (by simp) (by omega) cw3
 refine⟨K+1,fun k hk=>?_⟩
 obtain⟨k,rfl⟩:∃ k',k=k'+1:=⟨k - 1,by omega⟩
 unfold q7.f
 rw [if_neg (by omega),if_neg (by omega),decide_eq_false (by omega)]
 simp only [q7.j0]
 rw [if_neg (by simp)]
 refine(hK k (by omega)).trans ?_
 rw [List.nil_append]
 by_cases hd:Dat nums texts
 ·rw [if_pos hd,ba8 hd.2]
 ·rw [if_neg hd,aM7 (fun h=>hd ⟨by omega,h⟩)]
theorem be1 {L:List Smp} (h:May L):∀ s ∈ L,Bw s:=fun s hs=>by
 obtain⟨h1,h2,h3,h4⟩:=(bU9 L h.2).1 s hs
 exact⟨by omega,h2,h3,h4⟩
theorem bU0 (nums:List Int) (hn:nums.length≤maxLen) (texts:List ByteArray):(∃ K,∀ k,K≤k→q30.f k nums texts=some ((if Dat nums texts then(un true 0 0 0 0 (nums.drop 1),(0:Int))else([],2)))):=by
 have row:∀ m,nums.length=2*m+1→q30.row nums=(urun ([],z67,z67) (nums.drop 1)).1:=fun m hm=>by
  unfold q30.row
  rw [show nums.length / 2=m by omega]
  exact bJ7 nums m hm
 have same:∀ m,nums.length=2*m+1→q30.good nums=true→(May (un true 0 0 0 0 (nums.drop 1))∨May (q30.row nums))→q30.row nums=un true 0 0 0 0 (nums.drop 1):=fun m hm hg h=>by
  rw [row m hm] at h ⊢
  have:=cv6 m (nums.drop 1) (by simp;omega) ((bx9 nums m hm).1 hg) true [] 0 0 0 0 (by simp) ⟨by simp,by simp,by simp,by simp⟩ (by omega) (by omega) (h.imp be1 be1)
  exact this
 by_cases hd:Dat nums texts
 ·rw [if_pos hd]
  obtain⟨m,h1,h2,h3,h4⟩:=hd.len
  have hok:q30.ok nums texts=true:=by
   unfold q30.ok
   simp only [Bool.and_eq_true,decide_eq_true_eq]
   exact⟨⟨⟨by omega,by rw [h3,show nums.length / 2=m by omega]⟩,hd.1⟩,by omega⟩
  have hg:q30.good nums=true:=(bx9 nums m h2).2 (by have:=aT3 _ hd.2.1;rwa [hd.2.2] at this)
  have hr:=same m h2 hg (.inl hd.2.1)
  obtain⟨K,hK⟩:=aY8 (un true 0 0 0 0 (nums.drop 1))
  refine⟨K,fun k hk=>?_⟩
  unfold q30.f
  rw [if_pos hn,if_pos hok,if_pos hg,hr,hK k hk,Option.bind_some,if_pos hd.2.1,if_pos rfl]
 ·rw [if_neg hd]
  obtain⟨K,hK⟩:=aY8 (q30.row nums)
  refine⟨K,fun k hk=>?_⟩
  unfold q30.f
  rw [if_pos hn]
  split
  ·rename_i hok
   split
   ·rename_i hg
    rw [hK k hk,Option.bind_some]
    by_cases hm:May (q30.row nums)
    ·exfalso
     unfold q30.ok at hok
     simp only [Bool.and_eq_true,decide_eq_true_eq] at hok
     obtain⟨⟨⟨o1,o2⟩,o3⟩,o4⟩:=hok
     have hm2:nums.length=2*(nums.length / 2)+1:=by omega
     have hr:=same _ hm2 hg (.inr hm)
     rw [hr] at hm
     refine hd ⟨o3,hm,?_⟩
     have hl:=cJ1 (nums.length / 2) (nums.drop 1) (by simp;omega) true 0 0 0 0
     unfold P7
     rw [hl,cZ6 (nums.length / 2) (nums.drop 1) (by simp;omega),←o2]
     have:=aA1 nums 0 (by omega)
     simpa using this.symm
    ·rw [if_neg hm,if_neg (by decide)]
   ·rfl
  ·rfl
end Go.Proofs.Ytmddmbagehjdeaa.Q
end
section
namespace Go.Proofs.Ytmddmbagehjdeaa.Q
open Go Go.RowKit Go.Proofs.Ytmddmbagehjdeaa.G Go.Proofs.YtmddmbagehjdeaaW.PrintWords Go.Proofs.YtmddmbagehjdeaaW.PrintLast Go.Proofs.YtmddmbagehjdeaaW.PrintMore
def zr:Nat→List Int→Nat
 |f+1,a::b::q=>if a=0∧b=0 then zr f q+1 else 0
 |_,_=>0
theorem bh8:∀ f q,zr f q≤f
 |0,_=>by unfold zr;exact Nat.le_refl _
 |f+1,[]=>by unfold zr;exact Nat.zero_le _
 |f+1,[_]=>by unfold zr;exact Nat.zero_le _
 |f+1,a::b::q=>by
  rw [zr]
  split
  ·have:=bh8 f q;omega
  ·omega
theorem aG2:∀ f q,2*zr f q≤q.length
 |0,_=>by unfold zr;omega
 |f+1,[]=>by unfold zr;omega
 |f+1,[_]=>by unfold zr;omega
 |f+1,a::b::q=>by
  rw [zr]
  split
  ·have:=aG2 f q;simp only [List.length_cons];omega
  ·omega
theorem bO3:∀ f q,q=List.replicate (2*zr f q) 0++q.drop (2*zr f q)
 |0,q=>by unfold zr;simp
 |f+1,[]=>by unfold zr;simp
 |f+1,[x]=>by unfold zr;simp
 |f+1,a::b::q=>by
  rw [zr]
  split
  ·rename_i h
   have h1:=bO3 f q
   rw [h.1,h.2,show 2*(zr f q+1)=2*zr f q+1+1 by omega,List.replicate_succ,List.replicate_succ,List.drop_succ_cons,List.drop_succ_cons,List.cons_append,List.cons_append,←h1]
  ·simp
def gE:Nat→Nat→List Int→List Bool
 |f+1,j,a::b::q=>if j<2∨¬(a=0∧b=0)then G5 a++(G5 b++gE f (j+1) q)
   else [false,false]++(low (zr 15 q) 4++gE f (j+1+zr 15 q) (q.drop (2*zr 15 q)))
 |_,_,_=>[]
theorem aT9:∀ f g j q,q.length≤2*f→q.length≤2*g→gE f j q=gE g j q
 |0,0,_,_,_,_=>rfl
 |0,g+1,j,[],_,_=>rfl
 |0,g+1,j,a::q,h,_=>by simp at h
 |f+1,0,j,[],_,_=>rfl
 |f+1,0,j,a::q,_,h=>by simp at h
 |f+1,g+1,j,[],_,_=>rfl
 |f+1,g+1,j,[a],_,_=>rfl
 |f+1,g+1,j,a::b::q,h,h'=>by
  simp only [List.length_cons] at h h'
  rw [gE,gE,aT9 f g (j+1) q (by omega) (by omega),aT9 f g (j+1+zr 15 q) (q.drop (2*zr 15 q)) (by rw [List.length_drop];omega) (by rw [List.length_drop];omega)]
def gq (j:Nat) (q:List Int):List Bool:=gE q.length j q
theorem br7 (j:Nat):gq j []=[]:=rfl
theorem aw8 (j:Nat) (a b:Int) (q:List Int) (h:j<2∨¬(a=0∧b=0)):gq j (a::b::q)=G5 a++(G5 b++gq (j+1) q):=by
 unfold gq
 rw [List.length_cons,gE,if_pos h,aT9 (b::q).length q.length (j+1) q (by simp only [List.length_cons];omega) (by omega)]
theorem aU9 (j:Nat) (q:List Int) (h:2≤j):gq j (0::0::q)=[false,false]++(low (zr 15 q) 4++gq (j+1+zr 15 q) (q.drop (2*zr 15 q))):=by
 unfold gq
 rw [List.length_cons,gE,if_neg (fun h1=>h1.elim (fun h2=>by omega) (fun h2=>h2 ⟨rfl,rfl⟩)),aT9 (0::q).length (q.drop (2*zr 15 q)).length _ _ (by rw [List.length_drop,List.length_cons];omega) (by omega)]
theorem cE8:∀ (m:Nat) (j:Nat) (q:List Int),q.length=2*m→(gq j q).length≤136*m:=by
 intro m
 induction m using Nat.strongRecOn with
 |_ m ih =>
  intro j q hq
  match q,hq with
  |[],_=>rw [br7];simp
  |[x],hq=>simp at hq;omega
  |a::b::q,hq =>
   simp only [List.length_cons] at hq
   by_cases h:j<2∨¬(a=0∧b=0)
   ·rw [aw8 j a b q h]
    have h1:=ih (m - 1) (by omega) (j+1) q (by omega)
    have h2:=aq1 a
    have h3:=aq1 b
    simp only [List.length_append]
    omega
   ·have hj:2≤j:=by omega
    have h0:a=0∧b=0:=by
     by_cases h1:a=0∧b=0
     ·exact h1
     ·exact absurd (Or.inr h1) h
    rw [h0.1,h0.2,aU9 j q hj]
    have h1:=aG2 15 q
    have h2:=ih (m - 1 - zr 15 q) (by omega) (j+1+zr 15 q) (q.drop (2*zr 15 q)) (by rw [List.length_drop];omega)
    have h3:=L6 (zr 15 q) 4
    simp only [List.length_append,List.length_cons,List.length_nil,h3]
    omega
theorem ck4 (n:List Int) (i:Nat):rd n (i:Int)=n.getD i 0:=by unfold rd;rw [Int.toNat_natCast]
theorem bv4 (n:List Int) (i:Nat) (h:i+1<n.length):n.drop i=rd n (i:Int)::rd n ((i+1:Nat):Int)::n.drop (i+2):=by
 rw [ck4,ck4,al2 n i 0 (by omega),al2 n (i+1) 0 h]
theorem bO9 (n:List Int) (hn:n.length≤1000) (at_:Nat) (hev:(n.length - at_) % 2=0) (ha:at_≤n.length) (d:Nat):∀ i,i+d=16→at_+2*i≤n.length →
  (∃ K,∀ k,K≤k→q31.l0 k n (at_:Int) (i:Int)=some (((i+zr d (n.drop (at_+2*i)):Nat):Int))):=by
 induction d with
 |zero =>
  intro i hi _
  refine Ev.succ 0 fun k _=>?_
  rw [q31.l0,if_neg (by omega)]
  simp [zr]
 |succ d ih =>
  intro i hi hle
  have e1:q5 (wrap64 (2*(i:Int))=((2*i:Nat):Int)):=⟨by rw [w64]<;>omega⟩
  have e2:q5 (wrap64 ((at_:Int)+((2*i:Nat):Int))=((at_+2*i:Nat):Int)):=⟨by rw [w64]<;>omega⟩
  have e3:q5 (wrap64 (((at_+2*i:Nat):Int)+1)=((at_+2*i+1:Nat):Int)):=⟨by rw [w64]<;>omega⟩
  have e4:q5 (wrap64 ((i:Int)+1)=((i+1:Nat):Int)):=⟨by rw [w64]<;>omega⟩
  by_cases h1:at_+2*i+1<n.length
  ·have hd:=bv4 n (at_+2*i) h1
   rw [hd,zr]
   by_cases h2:rd n ((at_+2*i:Nat):Int)=0
   ·by_cases h3:rd n ((at_+2*i+1:Nat):Int)=0
    ·obtain⟨K,hK⟩:=ih (i+1) (by omega) (by omega)
     refine Ev.succ K fun k hk=>?_
     have:=hK k hk
     rw [show at_+2*(i+1)=at_+2*i+2 by omega,Nat.add_right_comm] at this
     rw [q31.l0,if_pos (by omega),e1.out,e2.out,e3.out,if_pos (by omega),if_pos (Int.natCast_nonneg _),if_pos (by omega),if_pos h2,if_pos (Int.natCast_nonneg _),if_pos h3,e4.out,if_pos ⟨h2,h3⟩,this]
     rfl
    ·refine Ev.succ 0 fun k _=>?_
     rw [q31.l0,if_pos (by omega),e1.out,e2.out,e3.out,if_pos (by omega),if_pos (Int.natCast_nonneg _),if_pos (by omega),if_pos h2,if_pos (Int.natCast_nonneg _),if_neg h3,if_neg (fun h=>h3 h.2),Nat.add_zero]
   ·refine Ev.succ 0 fun k _=>?_
    rw [q31.l0,if_pos (by omega),e1.out,e2.out,e3.out,if_pos (by omega),if_pos (Int.natCast_nonneg _),if_pos (by omega),if_neg h2,if_neg (fun h=>h2 h.1),Nat.add_zero]
  ·have hnil:n.drop (at_+2*i)=[]:=List.drop_of_length_le (by omega)
   refine Ev.succ 0 fun k _=>?_
   rw [q31.l0,if_pos (by omega),e1.out,e2.out,e3.out,if_neg (by omega),hnil]
   simp [zr]
theorem ch8 (n:List Int) (hn:n.length≤1000) (at_:Nat) (hev:(n.length - at_) % 2=0) (ha:at_≤n.length):(∃ K,∀ k,K≤k→q31.f k n (at_:Int)=some (((zr 16 (n.drop at_):Nat):Int))):=by
 obtain⟨K,hK⟩:=bO9 n hn at_ hev ha 16 0 rfl (by omega)
 refine⟨K,fun k hk=>?_⟩
 have:=hK k hk
 rwa [Nat.mul_zero,Nat.add_zero,Nat.zero_add] at this
theorem low6 (z:Nat) (h:z<16):low z 6=[false,false]++low z 4:=by
 have e:=aO3 z 4 2
 rw [Nat.div_eq_of_lt (show z<2 ^ 4 from h)] at e
 rw [e]
 rfl
theorem put6 (out:List Bool) (hl:out.length≤100000) (z:Nat) (h:z<16):putR out z 6=(Of (out++([false,false]++low z 4)),((out++([false,false]++low z 4)).length:Int),0):=by
 unfold putR
 have h1:¬((6:Int)<0∨64<(6:Int)∨(6:Int)<64∧z / 2 ^ (6:Int).toNat≠0):=by
  rintro(h|h|h)
  ·omega
  ·omega
  ·have h2:=h.2
   rw [show(6:Int).toNat=6 from rfl] at h2
   simp only [Nat.reducePow] at h2
   omega
 rw [if_neg h1,if_neg (by omega),show(6:Int).toNat=6 from rfl,low6 z h]
 simp [L6]
theorem cd6 (n:List Int) (hb:∀ x ∈ n,I64 x) (m:Nat) (hm:m≤64) (hn:n.length=1+2*m) (d:Nat):∀ (j:Nat) (out:List Bool),m - j≤d→j≤m→out.length≤136*j →
  (∃ K,∀ k,K≤k→q15.l0 k n ((1+2*j:Nat):Int) (Of out) (out.length:Int)=some ((Of (out++gq j (n.drop (1+2*j))),((out++gq j (n.drop (1+2*j))).length:Int)))):=by
 have done:∀ (j:Nat) (out:List Bool),j=m→(∃ K,∀ k,K≤k→q15.l0 k n ((1+2*j:Nat):Int) (Of out) (out.length:Int)=some ((Of (out++gq j (n.drop (1+2*j))),((out++gq j (n.drop (1+2*j))).length:Int)))):=fun j out hj=>by
  refine Ev.succ 0 fun k _=>?_
  rw [q15.l0,if_neg (by omega),List.drop_of_length_le (by omega),br7,List.append_nil]
 induction d with
 |zero=>intro j out hd hj _;exact done j out (by omega)
 |succ d ih =>
  intro j out hd hj hout
  by_cases hjm:j=m
  ·exact done j out hjm
  have hdr:=bv4 n (1+2*j) (by omega)
  obtain⟨KZ,hZ⟩:=ch8 n (by omega) (1+2*j) (by omega) (by omega)
  obtain⟨a,ha⟩:∃ a,a=rd n ((1+2*j:Nat):Int):=⟨_,rfl⟩
  obtain⟨b,hbb⟩:∃ b,b=rd n ((1+2*j+1:Nat):Int):=⟨_,rfl⟩
  obtain⟨q,hq⟩:∃ q,q=n.drop (1+2*j+2):=⟨_,rfl⟩
  have ia:I64 a:=hb a (by rw [ha];exact aY3 n _ (by omega))
  have ib:I64 b:=hb b (by rw [hbb];exact aY3 n _ (by omega))
  rw [←ha,←hbb,←hq] at hdr
  rw [hdr] at hZ ⊢
  have ca:=aq1 a
  have cb:=aq1 b
  have e1:q5 (wrap64 (((1+2*j:Nat):Int)+1)=((1+2*j+1:Nat):Int)):=⟨by rw [w64]<;>omega⟩
  have e2:q5 (wrap64 (((1+2*j:Nat):Int)+2)=((1+2*(j+1):Nat):Int)):=⟨by rw [w64]<;>omega⟩
  by_cases h:j<2∨¬(a=0∧b=0)
  ·rw [aw8 j a b q h]
   obtain⟨K1,h1⟩:=bf7 out a ia (by omega) (by omega)
   obtain⟨K2,h2⟩:=bf7 (out++G5 a) b ib (by rw [List.length_append];omega) (by rw [List.length_append];omega)
   obtain⟨K3,h3⟩:=ih (j+1) (out++G5 a++G5 b) (by omega) (by omega) (by rw [List.length_append,List.length_append];omega)
   rw [show 1+2*(j+1)=1+2*j+2 by omega,←hq] at h3
   simp only [List.append_assoc] at h3
   have fin:∀ t:Int,(∃ K,∀ k,K≤k→q15.j1 k n ((1+2*j:Nat):Int) t false (Of out) (out.length:Int)=some ((Of (out++(G5 a++(G5 b++gq (j+1) q))),((out++(G5 a++(G5 b++gq (j+1) q))).length:Int)))):=fun t=>by
    refine⟨K1+K2+K3+1,fun k hk=>?_⟩
    obtain⟨k,rfl⟩:∃ m,k=m+1:=⟨k - 1,by omega⟩
    rw [q15.j1,if_neg (by decide),if_pos (Int.natCast_nonneg _),if_pos (by omega),←ha,h1 k (by omega),Option.bind_some,e1.out,if_pos (Int.natCast_nonneg _),if_pos (by omega),←hbb,h2 k (by omega),Option.bind_some,e2.out,show 1+2*(j+1)=1+2*j+2 by omega]
    simp only [List.append_assoc]
    exact h3 k (by omega)
   obtain⟨K4,h4⟩:=fin ((zr 16 (a::b::q):Nat):Int)
   refine⟨K4+KZ+1,fun k hk=>?_⟩
   obtain⟨k,rfl⟩:∃ m,k=m+1:=⟨k - 1,by omega⟩
   rw [q15.l0,if_pos (by omega),hZ k (by omega),Option.bind_some]
   by_cases hj2:j<2
   ·rw [if_neg (by omega)]
    exact h4 k (by omega)
   ·have hz:zr 16 (a::b::q)=0:=by
     rw [zr,if_neg]
     rcases h with h|h
     ·exact absurd h hj2
     ·exact h
    rw [if_pos (by omega),hz,show decide (((0:Nat):Int)>0)=false from rfl]
    rw [hz] at h4
    exact h4 k (by omega)
  ·have hj2:2≤j:=by omega
   have h0:a=0∧b=0:=by
    by_cases h1:a=0∧b=0
    ·exact h1
    ·exact absurd (Or.inr h1) h
   have hzr:zr 16 (a::b::q)=zr 15 q+1:=by rw [zr,if_pos h0]
   obtain⟨z,hz⟩:∃ z,z=zr 15 q:=⟨_,rfl⟩
   have hz1:=bh8 15 q
   have hz2:=aG2 15 q
   have hql:q.length=2*(m - j - 1):=by rw [hq,List.length_drop];omega
   rw [hzr] at hZ
   rw [h0.1,h0.2,aU9 j q hj2]
   rw [←hz] at hZ hz1 hz2 ⊢
   obtain⟨K1,h1⟩:=cq3 out (by omega) z (by omega) 6
   rw [put6 out (by omega) z (by omega)] at h1
   have ll:=L6 z 4
   obtain⟨K3,h3⟩:=ih (j+1+z) (out++([false,false]++low z 4)) (by omega) (by omega) (by simp only [List.length_append,ll,List.length_cons,List.length_nil];omega)
   have hdd:n.drop (1+2*(j+1+z))=q.drop (2*z):=by rw [hq,List.drop_drop];congr 1;omega
   rw [hdd] at h3
   simp only [List.append_assoc] at h3 ⊢
   have e3:q5 (IntKind.u64.wrap (wrap64 (((z+1:Nat):Int) - 1))=(z:Int)):=⟨by rw [w64,W6]<;>omega⟩
   have e4:q5 (wrap64 (((1+2*j:Nat):Int)+wrap64 (2*((z+1:Nat):Int)))=((1+2*(j+1+z):Nat):Int)):=⟨by
    have:wrap64 (2*((z+1:Nat):Int))=2*((z+1:Nat):Int):=by rw [w64]<;>omega
    rw [this,w64]<;>omega⟩
   refine⟨K1+K3+KZ+2,fun k hk=>?_⟩
   obtain⟨k,rfl⟩:∃ m,k=m+2:=⟨k - 2,by omega⟩
   rw [q15.l0,if_pos (by omega),hZ _ (by omega),Option.bind_some,if_pos (by omega),decide_eq_true (show((z+1:Nat):Int)>0 by omega),q15.j1,if_pos rfl,e3.out,h1 k (by omega),Option.bind_some,e4.out]
   exact h3 k (by omega)
theorem bK9 (n:List Int) (hb:∀ x ∈ n,I64 x) (m:Nat) (hm:m≤64) (hn:n.length=1+2*m):(∃ K,∀ k,K≤k→q15.f k n=some ((Of (gq 0 (n.drop 1)),((gq 0 (n.drop 1)).length:Int)))):=by
 obtain⟨K,hK⟩:=cd6 n hb m hm hn m 0 [] (by omega) (by omega) (by simp)
 exact⟨K,fun k hk=>hK k hk⟩
end Go.Proofs.Ytmddmbagehjdeaa.Q
end
section
namespace Go.Proofs.Ytmddmbagehjdeaa.Q
open Go Go.RowKit Go.Proofs.Ytmddmbagehjdeaa.G Go.Proofs.YtmddmbagehjdeaaW.PrintWords Go.Proofs.YtmddmbagehjdeaaW.PrintLast Go.Proofs.YtmddmbagehjdeaaW.PrintMore
theorem ao7 (f:Nat) (a b:Int) (q:List Int):zr (f+1) (a::b::q)=if a=0∧b=0 then zr f q+1 else 0:=by rw [zr]
theorem bn7:∀ (t f:Nat) (q:List Int),t≤zr f q→zr (f - t) (q.drop (2*t))=zr f q - t
 |0,f,q,_=>by simp
 |t+1,0,q,h=>by unfold zr at h;omega
 |t+1,f+1,[],h=>by simp [zr] at h
 |t+1,f+1,[_],h=>by simp [zr] at h
 |t+1,f+1,a::b::q,h=>by
  rw [ao7] at h ⊢
  by_cases h0:a=0∧b=0
  ·rw [if_pos h0] at h ⊢
   rw [show f+1 - (t+1)=f - t by omega,show 2*(t+1)=2*t+1+1 by omega,List.drop_succ_cons,List.drop_succ_cons,bn7 t f q (by omega)]
   omega
  ·rw [if_neg h0] at h;omega
theorem cm6 (L:List Smp) (n:List Int) (m:Nat) (hm:m≤64) (hn:n.length=1+2*m) (hL:L.length=m) (out:List Bool) (i:Nat) (hi:i<m) (hi2:2≤i) (hout:out.length≤100000) (R:List Bool)
  (hR:(∃ K,∀ k,K≤k→q8.l0 k L n (out++([false,false]++low (zr 16 (n.drop (1+2*i)) - 1) 4)) ((zr 16 (n.drop (1+2*i)) - 1:Nat):Int) ((i+1:Nat):Int)=some (R)))
  (h1:1≤zr 16 (n.drop (1+2*i))) (d:Nat):∀ x,d+x=zr 16 (n.drop (1+2*i))→(∃ K,∀ k,K≤k→q8.l1 k L n out (i:Int) ((i+x:Nat):Int)=some (R)):=by
 obtain⟨z,hz⟩:∃ z,z=zr 16 (n.drop (1+2*i)):=⟨_,rfl⟩
 have hz16:=bh8 16 (n.drop (1+2*i))
 have hzl:=aG2 16 (n.drop (1+2*i))
 rw [List.length_drop] at hzl
 rw [←hz] at hz16 hzl hR h1
 obtain⟨K,hK⟩:=hR
 obtain⟨KL,hLow⟩:=cl5 (z - 1) 4 (by omega) (by omega)
 have ll:=L6 (z - 1) 4
 rw [←hz]
 induction d with
 |zero =>
  intro x hx
  obtain rfl:x=z:=by omega
  have hend:=bn7 x 16 (n.drop (1+2*i)) (by omega)
  rw [←hz,Nat.sub_self,List.drop_drop] at hend
  have e1:q5 (wrap64 (1+wrap64 (2*((i+x:Nat):Int)))=((1+2*(i+x):Nat):Int)):=⟨by
   have:wrap64 (2*((i+x:Nat):Int))=2*((i+x:Nat):Int):=by rw [w64]<;>omega
   rw [this,w64]<;>omega⟩
  have e2:q5 (wrap64 (2+wrap64 (2*((i+x:Nat):Int)))=((1+2*(i+x)+1:Nat):Int)):=⟨by
   have:wrap64 (2*((i+x:Nat):Int))=2*((i+x:Nat):Int):=by rw [w64]<;>omega
   rw [this,w64]<;>omega⟩
  have e3:q5 (wrap64 ((i:Int)+16)=((i+16:Nat):Int)):=⟨by rw [w64]<;>omega⟩
  have e4:q5 (wrap64 (wrap64 (((i+x:Nat):Int) - (i:Int)) - 1)=((x - 1:Nat):Int)):=⟨by
   have:wrap64 (((i+x:Nat):Int) - (i:Int))=(x:Int):=by rw [w64]<;>omega
   rw [this,w64]<;>omega⟩
  have e5:q5 (IntKind.u64.wrap ((x - 1:Nat):Int)=((x - 1:Nat):Int)):=⟨by rw [W6];omega⟩
  have e6:q5 (wrap64 ((i:Int)+1)=((i+1:Nat):Int)):=⟨by rw [w64]<;>omega⟩
  have fin:∀ k,K+KL≤k→((some (([false,false]:List Bool))).bind fun cW6=>(if out.length+cW6.length<140737488355328 then((some (out++cW6:List Bool)).bind fun cU9=>((q14.f k ((x - 1:Nat):Int) 4).bind fun dd8=>(if cU9.length+dd8.length<140737488355328 then(q8.l0 k L n (cU9++dd8) ((x - 1:Nat):Int) ((i+1:Nat):Int))else(none))))else(none)))=some R:=fun k hk=>by
   rw [Option.bind_some,if_pos (by simp only [List.length_cons,List.length_nil];omega),Option.bind_some,show(4:Int)=((4:Nat):Int) from rfl,hLow k (by omega),Option.bind_some,if_pos (by simp only [List.length_append,ll,List.length_cons,List.length_nil];omega),List.append_assoc]
   exact hK k (by omega)
  refine⟨K+KL+1,fun k hk=>?_⟩
  obtain⟨k,rfl⟩:∃ m,k=m+1:=⟨k - 1,by omega⟩
  have hf:=fin k (by omega)
  by_cases hxm:i+x<m
  ·have hdr:=bv4 n (1+2*(i+x)) (by omega)
   rw [show 1+2*i+2*x=1+2*(i+x)by omega,hdr] at hend
   rw [q8.l1,if_pos (by omega),e1.out,if_pos (Int.natCast_nonneg _),if_pos (by omega)]
   by_cases ha:rd n ((1+2*(i+x):Nat):Int)=0
   ·rw [if_pos ha,e2.out,if_pos (Int.natCast_nonneg _),if_pos (by omega)]
    by_cases hbz:rd n ((1+2*(i+x)+1:Nat):Int)=0
    ·have hx16:x=16:=by
      rcases Nat.lt_or_ge x 16 with h|h
      ·rw [show 16 - x=(15 - x)+1 by omega,ao7,if_pos ⟨ha,hbz⟩] at hend
       omega
      ·omega
     rw [if_pos hbz,e3.out,if_neg (by omega),e4.out,e5.out,e6.out]
     exact hf
    ·rw [if_neg hbz,e4.out,e5.out,e6.out]
     exact hf
   ·rw [if_neg ha,e4.out,e5.out,e6.out]
    exact hf
  ·rw [q8.l1,if_neg (by omega),e4.out,e5.out,e6.out]
   exact hf
 |succ d ih =>
  intro x hx
  obtain⟨K1,hK1⟩:=ih (x+1) (by omega)
  have hnow:=bn7 x 16 (n.drop (1+2*i)) (by omega)
  rw [←hz,List.drop_drop,show 1+2*i+2*x=1+2*(i+x)by omega] at hnow
  have hxm:i+x<m:=by omega
  have hdr:=bv4 n (1+2*(i+x)) (by omega)
  rw [hdr,show 16 - x=(15 - x)+1 by omega,ao7] at hnow
  have h0:rd n ((1+2*(i+x):Nat):Int)=0∧rd n ((1+2*(i+x)+1:Nat):Int)=0:=by
   by_cases h:rd n ((1+2*(i+x):Nat):Int)=0∧rd n ((1+2*(i+x)+1:Nat):Int)=0
   ·exact h
   ·rw [if_neg h] at hnow;omega
  clear hnow
  have e1:q5 (wrap64 (1+wrap64 (2*((i+x:Nat):Int)))=((1+2*(i+x):Nat):Int)):=⟨by
   have:wrap64 (2*((i+x:Nat):Int))=2*((i+x:Nat):Int):=by rw [w64]<;>omega
   rw [this,w64]<;>omega⟩
  have e2:q5 (wrap64 (2+wrap64 (2*((i+x:Nat):Int)))=((1+2*(i+x)+1:Nat):Int)):=⟨by
   have:wrap64 (2*((i+x:Nat):Int))=2*((i+x:Nat):Int):=by rw [w64]<;>omega
   rw [this,w64]<;>omega⟩
  have e3:q5 (wrap64 ((i:Int)+16)=((i+16:Nat):Int)):=⟨by rw [w64]<;>omega⟩
  have e4:q5 (wrap64 (((i+x:Nat):Int)+1)=((i+(x+1):Nat):Int)):=⟨by rw [w64]<;>omega⟩
  refine Ev.succ K1 fun k hk=>?_
  rw [q8.l1,if_pos (by omega),e1.out,if_pos (Int.natCast_nonneg _),if_pos (by omega),if_pos h0.1,e2.out,if_pos (Int.natCast_nonneg _),if_pos (by omega),if_pos h0.2,e3.out,if_pos (by omega),e4.out]
  exact hK1 k hk
theorem cf2 (L:List Smp) (n:List Int) (hb:∀ x ∈ n,I64 x) (m:Nat) (hm:m≤64) (hn:n.length=1+2*m) (hL:L.length=m) (d:Nat):∀ (i left:Nat) (out:List Bool),m - i≤d→i+left≤m→(0<left→2≤i)→left≤zr left (n.drop (1+2*i))→out.length≤136*(i+left) →
  (∃ K,∀ k,K≤k→q8.l0 k L n out (left:Int) (i:Int)=some ((out++gq (i+left) (n.drop (1+2*(i+left)))))):=by
 induction d with
 |zero =>
  intro i left out hd hle _ _ _
  obtain rfl:i=m:=by omega
  obtain rfl:left=0:=by omega
  refine Ev.succ 0 fun k _=>?_
  rw [q8.l0,if_neg (by omega),Nat.add_zero,List.drop_of_length_le (by omega),br7,List.append_nil]
 |succ d ih =>
  intro i left out hd hle hl2 hlz hout
  by_cases him:i=m
  ·obtain rfl:left=0:=by omega
   refine Ev.succ 0 fun k _=>?_
   rw [q8.l0,if_neg (by omega),Nat.add_zero,List.drop_of_length_le (by omega),br7,List.append_nil]
  have hdr:=bv4 n (1+2*i) (by omega)
  obtain⟨a,ha⟩:∃ a,a=rd n ((1+2*i:Nat):Int):=⟨_,rfl⟩
  obtain⟨b,hbb⟩:∃ b,b=rd n ((1+2*i+1:Nat):Int):=⟨_,rfl⟩
  obtain⟨q,hq⟩:∃ q,q=n.drop (1+2*i+2):=⟨_,rfl⟩
  have ia:I64 a:=hb a (by rw [ha];exact aY3 n _ (by omega))
  have ib:I64 b:=hb b (by rw [hbb];exact aY3 n _ (by omega))
  rw [←ha,←hbb,←hq] at hdr
  have ca:=aq1 a
  have cb:=aq1 b
  have e1:q5 (wrap64 (1+wrap64 (2*(i:Int)))=((1+2*i:Nat):Int)):=⟨by
   have:wrap64 (2*(i:Int))=2*(i:Int):=by rw [w64]<;>omega
   rw [this,w64]<;>omega⟩
  have e2:q5 (wrap64 (2+wrap64 (2*(i:Int)))=((1+2*i+1:Nat):Int)):=⟨by
   have:wrap64 (2*(i:Int))=2*(i:Int):=by rw [w64]<;>omega
   rw [this,w64]<;>omega⟩
  have e3:q5 (wrap64 ((i:Int)+1)=((i+1:Nat):Int)):=⟨by rw [w64]<;>omega⟩
  have enter:∀ (t:Bool) (r:List Bool),(i<2→t=true)→(2≤i→t=(if a=0 then(b != 0)else true))→(∃ K,∀ k,K≤k→q8.j1 k L n out (left:Int) (i:Int) a b t=some (r))→(∃ K,∀ k,K≤k→q8.l0 k L n out (left:Int) (i:Int)=some (r)):=fun t r h1 h2 ⟨K,hK⟩=>by
   refine Ev.succ K fun k hk=>?_
   rw [q8.l0,if_pos (by omega),e1.out,if_pos (Int.natCast_nonneg _),if_pos (by omega),e2.out,if_pos (Int.natCast_nonneg _),if_pos (by omega),←ha,←hbb]
   have hk1:=hK k hk
   by_cases hi2:i<2
   ·rw [if_pos (by omega),←h1 hi2];exact hk1
   ·rw [if_neg (by omega)]
    have h3:=h2 (by omega)
    by_cases h0:a=0
    ·rw [if_pos h0] at h3 ⊢;rw [←h3];exact hk1
    ·rw [if_neg h0] at h3 ⊢;rw [←h3];exact hk1
  by_cases h:i<2∨¬(a=0∧b=0)
  ·have hl0:left=0:=by
    rcases Nat.eq_zero_or_pos left with h0|h0
    ·exact h0
    ·rcases h with h1|h1
     ·have:=hl2 h0;omega
     ·rw [hdr,show left=(left - 1)+1 by omega,ao7,if_neg h1] at hlz;omega
   subst hl0
   rw [Nat.add_zero,hdr,aw8 i a b q h]
   obtain⟨K1,h1⟩:=bx4 a ia
   obtain⟨K2,h2⟩:=bx4 b ib
   obtain⟨K3,h3⟩:=ih (i+1) 0 (out++(G5 a++G5 b)) (by omega) (by omega) (fun h=>by omega) (Nat.zero_le _) (by simp only [List.length_append];omega)
   rw [Nat.add_zero,show 1+2*(i+1)=1+2*i+2 by omega,←hq] at h3
   simp only [List.append_assoc] at h3
   refine enter true _ (fun _=>rfl) (fun hi2=>?_) ⟨K1+K2+K3+1,fun k hk=>?_⟩
   ·rcases h with h|h
    ·omega
    ·by_cases h0:a=0
     ·have:b≠0:=fun h4=>h ⟨h0,h4⟩
      rw [if_pos h0];simpa using this
     ·rw [if_neg h0]
   ·obtain⟨k,rfl⟩:∃ m,k=m+1:=⟨k - 1,by omega⟩
    rw [q8.j1,if_pos rfl,h1 k (by omega),Option.bind_some,if_pos (by omega),Option.bind_some,h2 k (by omega),Option.bind_some,if_pos (by rw [List.length_append];omega),e3.out,List.append_assoc]
    exact h3 k (by omega)
  ·have hi2:2≤i:=by omega
   have h0:a=0∧b=0:=by
    by_cases h1:a=0∧b=0
    ·exact h1
    ·exact absurd (Or.inr h1) h
   refine enter false _ (fun h1=>by omega) (fun _=>by rw [if_pos h0.1,h0.2];rfl) ?_
   rcases Nat.eq_zero_or_pos left with hl0|hl0
   ·subst hl0
    have hz:zr 16 (n.drop (1+2*i))=zr 15 q+1:=by rw [hdr,ao7,if_pos h0]
    have hz1:=bh8 15 q
    have hz2:=aG2 15 q
    have hql:q.length=2*(m - i - 1):=by rw [hq,List.length_drop];omega
    have ll:=L6 (zr 15 q) 4
    rw [Nat.add_zero]
    have hR:=ih (i+1) (zr 15 q) (out++([false,false]++low (zr 15 q) 4)) (by omega) (by omega) (fun _=>by omega) (by
     rw [show 1+2*(i+1)=1+2*i+2 by omega,←hq]
     have:∀ (f:Nat) (q:List Int),zr (zr f q) q=zr f q:=by
      intro f
      induction f with
      |zero=>intro q;simp [zr]
      |succ f ihf =>
       intro q
       match q with
       |[]=>simp [zr]
       |[_]=>simp [zr]
       |a::b::q =>
        rw [ao7]
        by_cases h:a=0∧b=0
        ·rw [if_pos h,ao7,if_pos h,ihf q]
        ·rw [if_neg h];simp [zr]
     rw [this 15 q]
     exact Nat.le_refl _) (by simp only [List.length_append,ll,List.length_cons,List.length_nil];omega)
    have hdd:n.drop (1+2*(i+1+zr 15 q))=q.drop (2*zr 15 q):=by rw [hq,List.drop_drop];congr 1;omega
    have hg:gq i (n.drop (1+2*i))=[false,false]++(low (zr 15 q) 4++gq (i+1+zr 15 q) (q.drop (2*zr 15 q))):=by rw [hdr,h0.1,h0.2,aU9 i q hi2]
    rw [hdd] at hR
    simp only [List.append_assoc] at hR
    rw [hg]
    obtain⟨K,hK⟩:=cm6 L n m hm hn hL out i (by omega) hi2 (by omega) _ (by rw [hz];exact hR) (by rw [hz];omega) _ 0 (Nat.add_zero _)
    refine Ev.succ K fun k hk=>?_
    rw [q8.j1,if_neg (by decide),if_neg (by decide)]
    exact hK k hk
   ·have e4:q5 (wrap64 ((left:Int) - 1)=((left - 1:Nat):Int)):=⟨by rw [w64]<;>omega⟩
    rw [hdr,show left=(left - 1)+1 by omega,ao7,if_pos h0] at hlz
    obtain⟨K,hK⟩:=ih (i+1) (left - 1) out (by omega) (by omega) (fun _=>by omega) (by rw [show 1+2*(i+1)=1+2*i+2 by omega,←hq];omega) (by omega)
    rw [show i+1+(left - 1)=i+left by omega] at hK
    refine Ev.succ K fun k hk=>?_
    rw [q8.j1,if_neg (by decide),if_pos (by omega),e4.out,e3.out]
    exact hK k hk
def gor (l:List Smp):List Bool:=gq 0 ((P7 l).drop 1)
theorem ag7 (l:List Smp):(P7 l).length=1+2*l.length:=by rw [P7,List.length_cons,br6];omega
theorem aC8 (l:List Smp) (hm:May l):∀ x ∈ P7 l,I64 x:=fun x hx=>by
 have h64:=hm.1
 rcases List.mem_cons.1 hx with rfl|hx
 ·unfold I64;omega
 ·have:=aT3 l hm x (by rw [P7,List.drop_one];exact hx)
  unfold B2 at this
  unfold I64
  omega
theorem aM0 (l:List Smp) (hm:l.length≤64):(gor l).length≤8704:=by
 have:=cE8 l.length 0 ((P7 l).drop 1) (by rw [List.length_drop,ag7];omega)
 unfold gor
 omega
theorem bP9 (l:List Smp) (hm:May l):(∃ K,∀ k,K≤k→q8.f k l=some (gor l)):=by
 obtain⟨K1,h1⟩:=bn2 l hm
 have h64:=hm.1
 obtain⟨K2,h2⟩:=cf2 l (P7 l) (aC8 l hm) l.length h64 (ag7 l) rfl l.length 0 0 [] (by omega) (by omega) (fun h=>by omega) (Nat.zero_le _) (by simp)
 refine⟨K1+K2,fun k hk=>?_⟩
 unfold q8.f
 rw [h1 k (by omega),Option.bind_some]
 exact h2 k (by omega)
def C6 (l:List Smp):Int×Int×Int×List Int×Int:=((l.length:Int),(at_ l 0).f0,(at_ l (l.length - 1)).f0,Of (gor l),((gor l).length:Int))
theorem bE9 (l:List Smp) (hm:May l) (h0:l≠[]):(∃ K,∀ k,K≤k→q47.f k l=some (C6 l)):=by
 obtain⟨K1,h1⟩:=bP9 l hm
 have h64:=hm.1
 have hg:=aM0 l h64
 obtain⟨K2,h2⟩:=cn6 (gor l) (by omega)
 have hpos:0<l.length:=List.length_pos_iff.2 h0
 have e1:q5 (wrap64 ((l.length:Int) - 1)=((l.length - 1:Nat):Int)):=⟨by rw [w64]<;>omega⟩
 refine⟨K1+K2,fun k hk=>?_⟩
 unfold q47.f
 rw [if_pos (by omega),e1.out,if_pos (Int.natCast_nonneg _),if_pos (by omega),h1 k (by omega),Option.bind_some,h2 k (by omega),Option.bind_some]
 rfl
theorem bC4 (l:List Smp):(∃ K,∀ k,K≤k→q35.f k l=some ((if May l∧l≠[] then((C6 l).1,(C6 l).2.1,(C6 l).2.2.1,(C6 l).2.2.2.1,(C6 l).2.2.2.2,0)else(0,0,0,[],0,1)))):=by
 classical
 obtain⟨K1,h1⟩:=cA2 l
 by_cases hm:May l
 ·by_cases h0:l=[]
  ·refine⟨K1,fun k hk=>?_⟩
   unfold q35.f
   rw [h1 k hk,Option.bind_some,if_pos hm,if_pos rfl,if_pos (by rw [h0];rfl),if_neg (fun h=>h.2 h0)]
  ·have h64:=hm.1
   have hpos:0<l.length:=List.length_pos_iff.2 h0
   obtain⟨K2,h2⟩:=bK9 (P7 l) (aC8 l hm) l.length h64 (ag7 l)
   have e1:q5 (wrap64 ((l.length:Int) - 1)=((l.length - 1:Nat):Int)):=⟨by rw [w64]<;>omega⟩
   refine⟨K1+K2,fun k hk=>?_⟩
   unfold q35.f
   rw [h1 k (by omega),Option.bind_some,if_pos hm,if_pos rfl,if_neg (by omega),if_pos (by omega),e1.out,if_pos (Int.natCast_nonneg _),if_pos (by omega),h2 k (by omega),Option.bind_some,if_pos ⟨hm,h0⟩]
   rfl
 ·refine⟨K1,fun k hk=>?_⟩
  unfold q35.f
  rw [h1 k hk,Option.bind_some,if_neg hm,if_neg (by decide),if_neg (fun h=>hm h.1)]
end Go.Proofs.Ytmddmbagehjdeaa.Q
end
section
namespace Go.Proofs.Ytmddmbagehjdeaa.Q
open Go Go.RowKit Go.Proofs.Ytmddmbagehjdeaa.G Go.Proofs.YtmddmbagehjdeaaW.PrintWords Go.Proofs.YtmddmbagehjdeaaW.PrintLast Go.Proofs.YtmddmbagehjdeaaW.PrintMore
theorem ck3:G5 0=[false]:=by decide +kernel
theorem aZ4 (bs:List Bool) (at_:Nat) (a:Int) (ha:I64 a) (r:List Bool) (h:bs.drop at_=G5 a++r):numR bs at_=(a,0,(bs.length:Int),((at_+(G5 a).length:Nat):Int)):=by
 unfold numR
 rw [h,aH2 a ha r]
theorem al1 (bs p r:List Bool) (at_:Nat) (h:bs.drop at_=p++r):bs.drop (at_+p.length)=r:=by
 rw [←List.drop_drop,h,List.drop_left]
theorem aB8 (bs p r:List Bool) (at_:Nat) (h:bs.drop at_=p++r) (ha:at_≤bs.length):at_+p.length≤bs.length:=by
 have:=congrArg List.length h
 rw [List.length_drop,List.length_append] at this
 omega
theorem cs8 (z:Nat) (h:z≤15):wrap64 (z:Int)=(z:Int):=by rw [w64]<;>omega
theorem bW1 (z:Nat) (h:z≤15):IntKind.u64.wrap (2*(z:Int))=((2*z:Nat):Int):=by rw [W6];omega
theorem cy7 (N j L:Nat) (hN:N≤64) (hj:j+1≤N) (hL:L=1+2*(j+1)):wrap64 ((N:Int) - wrap64 (Int.tdiv (wrap64 ((L:Int) - 1)) 2))=((N - (j+1):Nat):Int):=by
 have t1:wrap64 ((L:Int) - 1)=((2*(j+1):Nat):Int):=by rw [w64]<;>omega
 have t2:wrap64 (Int.tdiv ((2*(j+1):Nat):Int) 2)=((j+1:Nat):Int):=by rw [ah0 (Int.natCast_nonneg _),w64]<;>omega
 rw [t1,t2,w64]<;>omega
theorem bt0 (bs:List Bool) (hbs:bs.length≤1000000) (N:Nat) (hN:N≤64) (c1 c2:Int) (cB:List Int) (cN:Int) (d:Nat):∀ (j at_:Nat) (p q:List Int),N - j≤d→j≤N→p.length=1+2*j→q.length=2*(N - j)→(∀ x ∈ q,I64 x)→at_≤bs.length→bs.drop at_=gq j q →
  (∃ K,∀ k,K≤k→q9.l0 k p (N:Int) c1 c2 cB cN (Of bs) (bs.length:Int) (at_:Int)=some ((p++q,true))):=by
 have w2N:q5 (wrap64 (1+wrap64 (2*(N:Int)))=((1+2*N:Nat):Int)):=⟨by
  have:wrap64 (2*(N:Int))=2*(N:Int):=by rw [w64]<;>omega
  rw [this,w64]<;>omega⟩
 have done:∀ (j at_:Nat) (p q:List Int),j=N→p.length=1+2*j→q.length=2*(N - j)→(∃ K,∀ k,K≤k→q9.l0 k p (N:Int) c1 c2 cB cN (Of bs) (bs.length:Int) (at_:Int)=some ((p++q,true))):=fun j at_ p q hj hp hq=>by
  have hq0:q=[]:=List.eq_nil_of_length_eq_zero (by omega)
  refine Ev.succ 0 fun k _=>?_
  rw [q9.l0,w2N.out,if_neg (by omega),hq0,List.append_nil]
 induction d with
 |zero=>intro j at_ p q hd hj hp hq _ _ _;exact done j at_ p q (by omega) hp hq
 |succ d ih =>
  intro j at_ p q hd hj hp hq hI hat hdr
  by_cases hjN:j=N
  ·exact done j at_ p q hjN hp hq
  match q,hq,hI,hdr with
  |[],hq,_,_=>simp at hq;omega
  |[_],hq,_,_=>simp at hq;omega
  |a::b::q,hq,hI,hdr =>
   simp only [List.length_cons] at hq
   have ia:I64 a:=hI a (by simp)
   have ib:I64 b:=hI b (by simp)
   have iq:∀ x ∈ q,I64 x:=fun x hx=>hI x (by simp [hx])
   obtain⟨r,hr,hrest⟩:∃ r,gq j (a::b::q)=G5 a++(G5 b++r)∧((j<2∨¬(a=0∧b=0))∧r=gq (j+1) q∨(2≤j∧a=0∧b=0)∧r=low (zr 15 q) 4++gq (j+1+zr 15 q) (q.drop (2*zr 15 q))):=by
    by_cases h:j<2∨¬(a=0∧b=0)
    ·exact⟨_,aw8 j a b q h,.inl ⟨h,rfl⟩⟩
    ·have hj2:2≤j:=by omega
     have h0:a=0∧b=0:=by
      by_cases h1:a=0∧b=0
      ·exact h1
      ·exact absurd (Or.inr h1) h
     refine⟨_,?_,.inr ⟨⟨hj2,h0.1,h0.2⟩,rfl⟩⟩
     rw [h0.1,h0.2,ck3,aU9 j q hj2]
     rfl
   rw [hr] at hdr
   have hd2:=al1 _ _ _ _ hdr
   have hl1:=aB8 _ _ _ _ hdr hat
   have hd3:=al1 _ _ _ _ hd2
   have hl2:=aB8 _ _ _ _ hd2 hl1
   obtain⟨K1,h1⟩:=at7 bs hbs at_ hat
   rw [aZ4 bs at_ a ia _ hdr] at h1
   obtain⟨K2,h2⟩:=at7 bs hbs (at_+(G5 a).length) hl1
   rw [aZ4 bs _ b ib _ hd2] at h2
   have enter:∀ (res:List Int×Bool) (t:Bool),t=(if((p++[a,b]).length:Int)≤5 then true else if a=0 then(b != 0)else true)→(∃ K,∀ k,K≤k→q9.j2 k (p++[a,b]) t (N:Int) c1 c2 cB cN (Of bs) (bs.length:Int) ((at_+(G5 a).length+(G5 b).length:Nat):Int)=some (res)) →
     (∃ K,∀ k,K≤k→q9.l0 k p (N:Int) c1 c2 cB cN (Of bs) (bs.length:Int) (at_:Int)=some (res)):=fun res t ht ⟨K,hK⟩=>by
    refine⟨K1+K2+K+2,fun k hk=>?_⟩
    obtain⟨k,rfl⟩:∃ m,k=m+2:=⟨k - 2,by omega⟩
    rw [q9.l0,w2N.out,if_pos (by omega),h1 _ (by omega),Option.bind_some,h2 _ (by omega),Option.bind_some,if_pos rfl,show((0:Int) != 0)=false from rfl,q9.j1,if_neg (by decide),Option.bind_some,if_pos (by simp only [List.length_cons,List.length_nil];omega),Option.bind_some]
    have hk1:=hK k (by omega)
    by_cases h5:((p++[a,b]).length:Int)≤5
    ·rw [if_pos h5] at ht ⊢;rw [←ht];exact hk1
    ·rw [if_neg h5] at ht ⊢
     by_cases h0:a=0
     ·rw [if_pos h0] at ht ⊢;rw [←ht];exact hk1
     ·rw [if_neg h0] at ht ⊢;rw [←ht];exact hk1
   have hpl:(p++[a,b]).length=1+2*(j+1):=by rw [List.length_append,hp];rfl
   rcases hrest with⟨hc,hr1⟩|⟨⟨hj2,ha0,hb0⟩,hr1⟩
   ·rw [hr1] at hd3
    obtain⟨K3,h3⟩:=ih (j+1) (at_+(G5 a).length+(G5 b).length) (p++[a,b]) q (by omega) (by omega) hpl (by omega) iq hl2 hd3
    rw [List.append_assoc] at h3
    refine enter _ true ?_ (Ev.succ K3 fun k hk=>?_)
    ·by_cases h5:((p++[a,b]).length:Int)≤5
     ·rw [if_pos h5]
     ·rw [if_neg h5]
      rcases hc with hc|hc
      ·omega
      ·by_cases h0:a=0
       ·have:b≠0:=fun h4=>hc ⟨h0,h4⟩
        rw [if_pos h0];simpa using this
       ·rw [if_neg h0]
    ·rw [q9.j2,if_pos rfl]
     exact h3 k hk
   ·obtain⟨z,hz⟩:∃ z,z=zr 15 q:=⟨_,rfl⟩
    have hz1:=bh8 15 q
    have hz2:=aG2 15 q
    have hz3:=bO3 15 q
    rw [←hz] at hr1 hz1 hz2 hz3
    rw [hr1] at hd3
    have ll:=L6 z 4
    have hd4:=al1 _ _ _ _ hd3
    have hl3:=aB8 _ _ _ _ hd3 hl2
    rw [ll] at hd4 hl3
    obtain⟨at2,hat2⟩:∃ at2,at2=at_+(G5 a).length+(G5 b).length:=⟨_,rfl⟩
    rw [←hat2] at hd3 hd4 hl2 hl3 enter
    obtain⟨K4,h4⟩:=aU6 bs hbs at2 hl2 4
    have htk:am9 bs at2 4=((z:Int),0,(bs.length:Int),((at2+4:Nat):Int)):=by
     unfold am9
     rw [if_neg (by omega),if_neg (by omega),hd3,show(4:Int).toNat=4 from rfl]
     have e:(low z 4++gq (j+1+z) (q.drop (2*z))).take 4=low z 4:=by rw [List.take_append_of_le_length (by omega),List.take_of_length_le (by omega)]
     rw [e,aN4,Nat.mod_eq_of_lt (show z<2 ^ 4 by omega)]
    rw [htk] at h4
    obtain⟨K3,h3⟩:=ih (j+1+z) (at2+4) (p++[a,b]++List.replicate (2*z) 0) (q.drop (2*z)) (by omega) (by omega) (by rw [List.length_append,hpl,List.length_replicate];omega) (by rw [List.length_drop];omega) (fun x hx=>iq x (List.mem_of_mem_drop hx)) hl3 hd4
    simp only [List.append_assoc] at h3
    rw [←hz3] at h3
    refine enter _ false ?_ ⟨K3+K4+1,fun k hk=>?_⟩
    ·rw [if_neg (by omega),if_pos ha0,hb0];rfl
    ·obtain⟨k,rfl⟩:∃ m,k=m+1:=⟨k - 1,by omega⟩
     have e1:=q5.mk (cs8 z hz1)
     have e2:=q5.mk (cy7 N j (p++[a,b]).length hN (by omega) hpl)
     have e3:=q5.mk (bW1 z hz1)
     have e4:q5 (¬(z:Int)>((N - (j+1):Nat):Int)):=⟨by omega⟩
     have e5:q5 ((p++[a,b]).length+2*z<17592186044416):=⟨by rw [hpl];omega⟩
     clear hz1 hz2 hz3 hd4 hd3 hr1 hr hdr hd2 enter htk ih done
     rw [q9.j2,if_neg (by decide),h4 k (by omega),Option.bind_some,if_pos rfl,e1.out,e2.out,if_neg e4.out,e3.out,if_pos (Int.natCast_nonneg _),Int.toNat_natCast,if_pos e5.out]
     simp only [List.append_assoc]
     exact h3 k (by omega)
theorem bQ2 (l:List Smp) (hm:May l) (c1 c2:Int):(∃ K,∀ k,K≤k→q9.f k (l.length:Int) c1 c2 (Of (gor l)) ((gor l).length:Int)=some ((P7 l,true))):=by
 have h64:=hm.1
 have hg:=aM0 l h64
 have hi:=aC8 l hm
 obtain⟨K1,h1⟩:=bX4 (gor l) (by omega)
 obtain⟨K2,h2⟩:=bt0 (gor l) (by omega) l.length h64 c1 c2 (Of (gor l)) ((gor l).length:Int) l.length 0 0 [(l.length:Int)] ((P7 l).drop 1) (by omega) (by omega) rfl (by rw [List.length_drop,ag7];omega) (fun x hx=>hi x (List.mem_of_mem_drop hx)) (Nat.zero_le _) rfl
 refine⟨K1+K2,fun k hk=>?_⟩
 unfold q9.f
 rw [h1 k (by omega),Option.bind_some]
 exact h2 k (by omega)
theorem co1 (a b:List Int) (hab:a.length=b.length) (hl:a.length≤9223372036854775807) (d:Nat):∀ i:Nat,i+d=a.length→(∃ K,∀ k,K≤k→q20.l0 k a b (a.length:Int) i=some ((decide (a.drop i=b.drop i)))):=by
 induction d with
 |zero =>
  intro i hi
  refine Ev.succ 0 fun k _=>?_
  rw [q20.l0,if_neg (by omega),List.drop_of_length_le (by omega),List.drop_of_length_le (by omega)]
  simp
 |succ d ih =>
  intro i hi
  obtain⟨K,hK⟩:=ih (i+1) (by omega)
  have e1:q5 (wrap64 ((i:Int)+1)=((i+1:Nat):Int)):=⟨by rw [w64]<;>omega⟩
  refine Ev.succ K fun k hk=>?_
  rw [q20.l0,if_pos (by omega),if_pos (by omega),if_pos (by omega),if_pos (by omega),aA1 a i (by omega),aA1 b i (by omega),e1.out]
  by_cases h:rd a i=rd b i
  ·rw [if_pos h,hK k hk,h]
   simp
  ·rw [if_neg h]
   simp [h]
theorem cK7 (a b:List Int) (hl:a.length≤9223372036854775807):(∃ K,∀ k,K≤k→q20.f k a b=some ((decide (a=b)))):=by
 by_cases hab:a.length=b.length
 ·obtain⟨K,hK⟩:=co1 a b hab hl a.length 0 (Nat.zero_add _)
  refine⟨K,fun k hk=>?_⟩
  unfold q20.f
  rw [if_pos (by omega)]
  have:=hK k hk
  rwa [List.drop_zero,List.drop_zero] at this
 ·refine⟨0,fun k _=>?_⟩
  unfold q20.f
  rw [if_neg (by omega),decide_eq_false]
  intro h
  exact hab (by rw [h])
theorem aY7 (a0 a1 a2:Int) (a3:List Int) (a4:Int) (b0 b1 b2:Int) (b3:List Int) (b4:Int) (hl:a3.length≤9223372036854775807) :
  (∃ K,∀ k,K≤k→q57.f k a0 a1 a2 a3 a4 b0 b1 b2 b3 b4=some ((decide ((a0,a1,a2,a3,a4)=(b0,b1,b2,b3,b4))))):=by
 obtain⟨K,hK⟩:=cK7 a3 b3 hl
 refine⟨K,fun k hk=>?_⟩
 unfold q57.f q68.f
 by_cases h0:a0=b0
 ·by_cases h1:a1=b1
  ·by_cases h2:a2=b2
   ·by_cases h4:a4=b4
    ·rw [if_pos h0,if_pos h1,if_pos h2,if_pos h4,hK k hk,Option.bind_some,Option.bind_some]
     subst h0 h1 h2 h4
     simp
    ·rw [if_pos h0,if_pos h1,if_pos h2,if_neg h4,Option.bind_some]
     simp [h4]
   ·rw [if_pos h0,if_pos h1,if_neg h2];simp [h2]
  ·rw [if_pos h0,if_neg h1];simp [h1]
 ·rw [if_neg h0];simp [h0]
theorem aL4 (l:List Smp):un true 0 0 0 0 ((P7 l).drop 1)=l:=by rw [P7,List.drop_one];exact cU0 l true 0 0 0 0
theorem bj7 (l:List Smp) (hm:May l):Dat (P7 l) []:=by
 refine⟨rfl,?_,?_⟩
 ·rw [aL4];exact hm
 ·rw [aL4]
theorem bc9 (l:List Smp) (hm:May l) (h0:l≠[]):(∃ K,∀ k,K≤k→q16.f k (C6 l).1 (C6 l).2.1 (C6 l).2.2.1 (C6 l).2.2.2.1 (C6 l).2.2.2.2=some ((l,0))):=by
 have h64:=hm.1
 have hpos:0<l.length:=List.length_pos_iff.2 h0
 have hg:=aM0 l h64
 obtain⟨K1,h1⟩:=ax9 (gor l) (by omega)
 obtain⟨K2,h2⟩:=bQ2 l hm (C6 l).2.1 (C6 l).2.2.1
 obtain⟨K3,h3⟩:=bU0 (P7 l) (by rw [ag7];unfold maxLen;omega) []
 rw [if_pos (bj7 l hm),aL4] at h3
 obtain⟨K4,h4⟩:=bC4 l
 rw [if_pos ⟨hm,h0⟩] at h4
 have hO:=n6 (gor l)
 obtain⟨K5,h5⟩:=aY7 (C6 l).1 (C6 l).2.1 (C6 l).2.2.1 (C6 l).2.2.2.1 (C6 l).2.2.2.2 (C6 l).1 (C6 l).2.1 (C6 l).2.2.1 (C6 l).2.2.2.1 (C6 l).2.2.2.2 (by show(Of (gor l)).length≤_;rw [hO];omega)
 rw [decide_eq_true rfl] at h5
 refine⟨K1+K2+K3+K4+K5+1,fun k hk=>?_⟩
 obtain⟨k,rfl⟩:∃ m,k=m+1:=⟨k - 1,by omega⟩
 have e1:(C6 l).1=(l.length:Int):=rfl
 have e2:(C6 l).2.2.2.1=Of (gor l):=rfl
 have e3:(C6 l).2.2.2.2=((gor l).length:Int):=rfl
 rw [e1,e2,e3] at h4 h5
 unfold q16.f
 rw [e1,e2,e3,if_neg (by omega),if_neg (by omega),h1 _ (by omega),Option.bind_some,show((0:Int) != 0)=false from rfl,q16.j0,if_neg (by decide),h2 k (by omega),Option.bind_some,if_pos rfl,h3 k (by omega),Option.bind_some,if_pos rfl,h4 k (by omega),Option.bind_some,h5 k (by omega),Option.bind_some,if_pos rfl]
end Go.Proofs.Ytmddmbagehjdeaa.Q
end
section
namespace Go.Proofs.Ytmddmbagehjdeaa.Q
open Go Go.RowKit Go.Proofs.Ytmddmbagehjdeaa.G Go.Proofs.YtmddmbagehjdeaaW.PrintWords Go.Proofs.YtmddmbagehjdeaaW.PrintLast Go.Proofs.YtmddmbagehjdeaaW.PrintMore
theorem aZ7:(∃ K,∀ k,K≤k→q21.f k=some (true)):=by
 have h1:q21.f 90=some true:=by decide +kernel
 exact⟨90,fun k hk=>cf3 q21.mono hk h1⟩
end Go.Proofs.Ytmddmbagehjdeaa.Q
end
section
namespace Go.Proofs.Ytmddmbagehjdeaa.Q
open Go Go.RowKit Go.Proofs.Ytmddmbagehjdeaa.G Go.Proofs.YtmddmbagehjdeaaW.PrintWords Go.Proofs.YtmddmbagehjdeaaW.PrintLast Go.Proofs.YtmddmbagehjdeaaW.PrintMore
def Byt (b:List Int):Prop:=∀ x ∈ b,0≤x∧x≤255
theorem cY5 {x:Int} (h:(Lit.int .u8 x).wf=true):0≤x∧x≤255:=by
 simp [Lit.wf] at h
 have e1:IntKind.min .u8=0:=by decide
 have e2:IntKind.max .u8=255:=by decide
 rw [e1,e2] at h
 exact h
theorem Byt.rd {b:List Int} (h:Byt b) (i:Int):0≤rd b i∧rd b i≤255:=by
 unfold Go.Proofs.YtmddmbagehjdeaaW.PrintWords.rd
 by_cases hi:i.toNat<b.length
 ·exact h _ (bB5 b _ 0 hi)
 ·rw [List.getD_eq_getElem?_getD,List.getElem?_eq_none (by omega)]
  exact⟨by decide,by decide⟩
def Good (b:List Int) (N:Int):Prop:=0≤N∧N≤131072∧(b.length:Int)=(N+7) / 8∧(N % 8=0∨rd b (N / 8) % 2 ^ (8 - (N % 8).toNat)=0)
noncomputable instance (b : List Int) (N : Int) : Decidable (Good b N) := Classical.propDecidable _
theorem bY1 (c:Nat) (r:Nat) (hr:r≤8) (h1:1≤r) (hc:c≤255):c*2 ^ r % 256=0 ↔ c % 2 ^ (8 - r)=0:=by
 rcases aK8 hr with rfl|rfl|rfl|rfl|rfl|rfl|rfl|rfl|rfl<;>(simp only [Nat.reducePow,Nat.reduceSub] at *;omega)
theorem be8 (b:List Int) (hb:Byt b) (N:Int) (hN:I64 N) (hl:b.length≤maxLen):(∃ K,∀ k,K≤k→q25.f k b N=some ((if Good b N then 0 else 1))):=by
 unfold maxLen at hl
 unfold I64 at hN
 refine⟨1,fun k hk=>?_⟩
 obtain⟨k,rfl⟩:∃ m,k=m+1:=⟨k - 1,by omega⟩
 unfold q25.f q71.f
 have bad:¬ Good b N→∀ x,(if Good b N then(0:Int)else 1)=x→x=1:=fun h x e=>by rw [if_neg h] at e;exact e.symm
 by_cases h0:N<0
 ·rw [if_pos h0,q25.j0,if_pos rfl,if_neg (fun h=>by have:=h.1;omega)]
 by_cases h1:N>131072
 ·rw [if_neg h0,if_pos h1,q25.j0,if_pos rfl,if_neg (fun h=>by have:=h.2.1;omega)]
 have w1:wrap64 (N+7)=N+7:=by rw [w64]<;>omega
 have w2:wrap64 ((N+7) / 8)=(N+7) / 8:=by rw [w64]<;>omega
 rw [if_neg h0,if_neg h1,Option.bind_some,w1,ah0 (by omega),w2]
 clear w1 w2
 by_cases h2:(b.length:Int)=(N+7) / 8
 ·rw [show((b.length:Int) != (N+7) / 8)=false by simp [h2],q25.j0,if_neg (by decide),ae5 (by omega)]
  by_cases h3:N % 8=0
  ·rw [if_neg (by omega),if_pos ⟨by omega,by omega,h2,.inl h3⟩]
  ·have w3:q5 (wrap64 ((b.length:Int) - 1)=N / 8):=⟨by rw [w64]<;>omega⟩
   obtain⟨r,hr⟩:=Int.eq_ofNat_of_zero_le (show 0≤N % 8 by omega)
   have hrd:=hb.rd (N / 8)
   obtain⟨c,hc⟩:=Int.eq_ofNat_of_zero_le hrd.1
   have hz:=bY1 c r (by omega) (by omega) (by omega)
   have hg:Good b N ↔ c % 2 ^ (8 - r)=0:=by
    unfold Good
    rw [hc,hr,Int.toNat_natCast]
    constructor
    ·rintro⟨_,_,_,h|h⟩
     ·omega
     ·exact_mod_cast h
    ·intro h
     exact⟨by omega,by omega,h2,.inr (by exact_mod_cast h)⟩
   rw [if_pos (by omega),w3.out,if_pos (by omega),if_pos (by omega),hr,if_pos (by omega),hc,az7 _ _ (by omega)]
   by_cases h4:c % 2 ^ (8 - r)=0
   ·rw [if_pos (by have:=hz.2 h4;omega),if_pos (hg.2 h4)]
   ·rw [if_neg (by intro h;exact h4 (hz.1 (by omega))),if_neg (fun h=>h4 (hg.1 h))]
 ·rw [show((b.length:Int) != (N+7) / 8)=true by simp [h2],q25.j0,if_pos rfl,if_neg (fun h=>h2 h.2.2.1)]
theorem bX1 (b:List Int) (hb:Byt b) (N:Int) (hN:I64 N) (hl:b.length≤maxLen):q66.f b N=some (decide (Good b N)):=by
 unfold maxLen at hl
 unfold I64 at hN
 unfold q66.f
 by_cases h0:N<0
 ·rw [if_pos h0,decide_eq_false (fun h=>by have:=h.1;omega)]
 by_cases h1:N>131072
 ·rw [if_neg h0,if_pos h1,decide_eq_false (fun h=>by have:=h.2.1;omega)]
 have w1:wrap64 (N+7)=N+7:=by rw [w64]<;>omega
 have w2:wrap64 ((N+7) / 8)=(N+7) / 8:=by rw [w64]<;>omega
 rw [if_neg h0,if_neg h1,w1,ah0 (by omega),w2,ae5 (by omega)]
 clear w1 w2
 by_cases h2:(b.length:Int)=(N+7) / 8
 ·rw [if_pos h2]
  by_cases h3:N % 8=0
  ·rw [if_pos h3,decide_eq_true ⟨by omega,by omega,h2,.inl h3⟩]
  ·have w3:q5 (wrap64 ((b.length:Int) - 1)=N / 8):=⟨by rw [w64]<;>omega⟩
   obtain⟨r,hr⟩:=Int.eq_ofNat_of_zero_le (show 0≤N % 8 by omega)
   have hrd:=hb.rd (N / 8)
   obtain⟨c,hc⟩:=Int.eq_ofNat_of_zero_le hrd.1
   have hr7:r≤7∧1≤r:=by omega
   have w4:q5 (IntKind.u64.wrap (wrap64 (8 - (r:Int)))=((8 - r:Nat):Int)):=⟨by rw [w64,W6]<;>omega⟩
   have w5:q5 (wrap64 (c:Int)=(c:Int)):=⟨by rw [w64]<;>omega⟩
   have w6:shl .i64 1 ((8 - r:Nat):Int)=((2 ^ (8 - r):Nat):Int):=by
    rcases aK8 (show r≤8 by omega)with rfl|rfl|rfl|rfl|rfl|rfl|rfl|rfl|rfl<;>decide +kernel
   have hp:=Nat.two_pow_pos (8 - r)
   rw [if_neg h3,w3.out,if_pos (by omega),if_pos (by omega),hr,w4.out,if_pos (Int.natCast_nonneg _),w6,if_neg (by omega),hc,w5.out,ae5 (Int.natCast_nonneg _)]
   congr 1
   rw [Bool.eq_iff_iff]
   simp only [beq_iff_eq,decide_eq_true_eq]
   unfold Good
   rw [hc,hr,Int.toNat_natCast]
   constructor
   ·intro h
    exact⟨by omega,by omega,h2,.inr (by exact_mod_cast h)⟩
   ·rintro⟨_,_,_,h|h⟩
    ·omega
    ·exact_mod_cast h
 ·rw [if_neg h2,decide_eq_false (fun h=>h2 h.2.2.1)]
def bit (b:List Int) (i:Nat):Bool:=(rd b ((i / 8:Nat):Int)).toNat / 2 ^ (7 - i % 8) % 2 == 1
def af1 (b:List Int) (n:Nat):List Bool:=(List.range n).map (bit b)
theorem ab7 (b:List Int) (n:Nat):(af1 b n).length=n:=by simp [af1]
theorem bz1 (b:List Int) (n:Nat):af1 b (n+1)=af1 b n++[bit b n]:=by simp [af1,List.range_succ]
theorem bY4 (b:List Int) (hb:Byt b) (n:Nat) (hn:n≤131072) (hl:n≤8*b.length) (d:Nat):∀ i,i+d=n→(∃ K,∀ k,K≤k→q44.l0 k (af1 b i) (i:Int) b (n:Int)=some (af1 b n)):=by
 induction d with
 |zero =>
  intro i hi
  obtain rfl:i=n:=by omega
  refine Ev.succ 0 fun k _=>?_
  rw [q44.l0,if_neg (by omega)]
 |succ d ih =>
  intro i hi
  obtain⟨K,hK⟩:=ih (i+1) (by omega)
  have w1:q5 (wrap64 ((i:Int)+1)=((i+1:Nat):Int)):=⟨by rw [w64]<;>omega⟩
  have w2:q5 (wrap64 (Int.tdiv (i:Int) 8)=((i / 8:Nat):Int)):=⟨by rw [ah0 (Int.natCast_nonneg _),w64]<;>omega⟩
  have w3:q5 (IntKind.u64.wrap (wrap64 (7 - Int.tmod (i:Int) 8))=((7 - i % 8:Nat):Int)):=⟨by rw [ae5 (Int.natCast_nonneg _),w64,W6]<;>omega⟩
  have e:(Int.tmod (shr .u8 (rd b ((i / 8:Nat):Int)) ((7 - i % 8:Nat):Int)) 2 == 1)=bit b i:=by
   obtain⟨c,hc⟩:=Int.eq_ofNat_of_zero_le (hb.rd ((i / 8:Nat):Int)).1
   unfold bit
   rw [hc,aI6 .u8 _ _ (show 7 - i % 8≤8 from Nat.le_trans (Nat.sub_le _ _) (by decide)),ae5 (Int.natCast_nonneg _),Int.toNat_natCast,Bool.eq_iff_iff]
   simp only [beq_iff_eq]
   omega
  have hbl:=ab7 b i
  refine Ev.succ K fun k hk=>?_
  rw [q44.l0,if_pos (by omega),w2.out,if_pos (by omega),if_pos (by omega),w3.out,if_pos (by omega),if_pos (by rw [hbl];omega),e,←bz1,w1.out]
  exact hK k hk
theorem cy9 (b:List Int) (hb:Byt b) (n:Nat) (hn:n≤131072) (hl:n≤8*b.length):(∃ K,∀ k,K≤k→q44.f k b (n:Int)=some (af1 b n)):=bY4 b hb n hn hl n 0 (by omega)
theorem cl7 (c m:Nat) (hm:m≤8):(List.range m).map (fun t=>(c / 2 ^ (7 - t) % 2 == 1))=low (c / 2 ^ (8 - m)) m:=by
 rcases aK8 hm with rfl|rfl|rfl|rfl|rfl|rfl|rfl|rfl|rfl<;>simp [List.range,List.range.loop,low,Nat.div_div_eq_div_mul]
theorem bM0 (c m:Nat) (hm:m≤8) (hc:c≤255) (hz:c % 2 ^ (8 - m)=0):s6 (low (c / 2 ^ (8 - m)) m)=c:=by
 unfold s6
 rw [aN4,L6]
 rcases aK8 hm with rfl|rfl|rfl|rfl|rfl|rfl|rfl|rfl|rfl<;>(simp only [Nat.reducePow,Nat.reduceSub] at *;omega)
theorem ca9 (f:Nat→Bool) (n a m:Nat) (h:a+m≤n) (hm:m=min 8 (n - a)):(((List.range n).map f).drop a).take 8=(List.range m).map (fun t=>f (a+t)):=by
 apply List.ext_getElem?
 intro i
 rw [List.getElem?_take,List.getElem?_drop,List.getElem?_map,List.getElem?_map]
 by_cases h1:i<m
 ·rw [if_pos (by omega),List.getElem?_range (by omega),List.getElem?_range h1]
  rfl
 ·rw [List.getElem?_eq_none (l:=List.range m) (by simp;omega)]
  split
  ·rw [List.getElem?_eq_none (by simp;omega)];rfl
  ·rfl
theorem bT5 (b:List Int) (hb:Byt b) (n:Nat) (hg:Good b (n:Int)):Of (af1 b n)=b:=by
 obtain⟨_,_,h2,h3⟩:=hg
 apply List.ext_getElem?
 intro j
 by_cases hj:j<b.length
 ·have hj2:j<(n+7) / 8:=by omega
  rw [Of,List.getElem?_map,ab7,List.getElem?_range hj2,Option.map_some,List.getElem?_eq_getElem hj]
  congr 1
  obtain⟨m,hm⟩:∃ m,m=min 8 (n - 8*j):=⟨_,rfl⟩
  have hrd:rd b (j:Int)=b[j]:=by simp [rd,List.getElem?_eq_getElem hj]
  obtain⟨c,hc⟩:=Int.eq_ofNat_of_zero_le (hb.rd (j:Int)).1
  have hc2:=(hb.rd (j:Int)).2
  have e:((af1 b n).drop (8*j)).take 8=low (c / 2 ^ (8 - m)) m:=by
   unfold af1
   rw [ca9 (bit b) n (8*j) m (by omega) hm,←cl7 c m (by omega)]
   apply List.map_congr_left
   intro t ht
   have ht':t<m:=by simpa using ht
   unfold bit
   rw [show(8*j+t) / 8=j by omega,show(8*j+t) % 8=t by omega,hc,Int.toNat_natCast]
  rw [e,bM0 c m (by omega) (by omega),←hrd,hc]
  by_cases h8:m=8
  ·rw [h8];simp [Nat.mod_one]
  ·have hm2:m=n % 8:=by omega
   rcases h3 with h3|h3
   ·omega
   ·have hj3:(n:Int) / 8=(j:Int):=by omega
    rw [hj3,hc] at h3
    have ht:((n:Int) % 8).toNat=m:=by omega
    rw [ht] at h3
    exact_mod_cast h3
 ·rw [List.getElem?_eq_none (by rw [n6,ab7];omega),List.getElem?_eq_none (by omega)]
end Go.Proofs.Ytmddmbagehjdeaa.Q
end
section
namespace Go.Proofs.Ytmddmbagehjdeaa.Q
open Go Go.RowKit Go.Proofs.Ytmddmbagehjdeaa.G Go.Proofs.YtmddmbagehjdeaaW.PrintWords Go.Proofs.YtmddmbagehjdeaaW.PrintLast Go.Proofs.YtmddmbagehjdeaaW.PrintMore
theorem bv5 (bs:List Bool) (at_:Nat) (ha:at_≤bs.length):∃ n e at2,numR bs at_=(n,e,(bs.length:Int),((at2:Nat):Int))∧at2≤bs.length∧(e=0∨e=2):=by
 unfold numR
 cases h:numb (bs.drop at_)with
 |none=>exact⟨0,2,at_,rfl,ha,.inr rfl⟩
 |some p =>
  obtain⟨n,j⟩:=p
  have:=aM2 _ _ _ h
  rw [List.length_drop] at this
  exact⟨n,0,at_+j,rfl,by omega,.inl rfl⟩
theorem bZ3 (bs:List Bool) (at_:Nat) (ha:at_≤bs.length):(∃ z:Nat,z≤15∧am9 bs at_ 4=((z:Int),0,(bs.length:Int),((at_+4:Nat):Int))∧at_+4≤bs.length)∨am9 bs at_ 4=(0,2,(bs.length:Int),(at_:Int)):=by
 unfold am9
 rw [if_neg (by omega)]
 by_cases h:((bs.length - at_:Nat):Int)<4
 ·rw [if_pos h];exact .inr rfl
 ·rw [if_neg h]
  refine .inl ⟨bv ((bs.drop at_).take 4),?_,rfl,by omega⟩
  have:=ap9 ((bs.drop at_).take 4)
  rw [List.length_take,List.length_drop,show min 4 (bs.length - at_)=4 by omega] at this
  omega
theorem bD5 (bs:List Bool) (hbs:bs.length≤1000000) (N:Nat) (hN:N≤64) (c1 c2:Int) (cB:List Int) (cN:Int) (d:Nat):∀ (at_:Nat) (p:List Int),1+2*N - p.length≤d→p.length≤200→at_≤bs.length →
  ∃ r,(∃ K,∀ k,K≤k→q9.l0 k p (N:Int) c1 c2 cB cN (Of bs) (bs.length:Int) (at_:Int)=some (r))∧r.1.length≤200:=by
 have w2N:q5 (wrap64 (1+wrap64 (2*(N:Int)))=((1+2*N:Nat):Int)):=⟨by
  have:wrap64 (2*(N:Int))=2*(N:Int):=by rw [w64]<;>omega
  rw [this,w64]<;>omega⟩
 induction d with
 |zero =>
  intro at_ p hd hp _
  refine⟨(p,true),Ev.succ 0 fun k _=>?_,hp⟩
  rw [q9.l0,w2N.out,if_neg (by omega)]
 |succ d ih =>
  intro at_ p hd hp hat
  by_cases hdone:1+2*N≤p.length
  ·refine⟨(p,true),Ev.succ 0 fun k _=>?_,hp⟩
   rw [q9.l0,w2N.out,if_neg (by omega)]
  obtain⟨K1,h1⟩:=at7 bs hbs at_ hat
  obtain⟨a,e,at1,hr1,hl1,he⟩:=bv5 bs at_ hat
  rw [hr1] at h1
  obtain⟨K2,h2⟩:=at7 bs hbs at1 hl1
  obtain⟨b,f,at2,hr2,hl2,hf⟩:=bv5 bs at1 hl1
  rw [hr2] at h2
  have enter:∀ (res:List Int×Bool) (t:Bool),t=(if e=0 then(f != 0)else true)→(∃ K,∀ k,K≤k→q9.j1 k p a b t (N:Int) c1 c2 cB cN (Of bs) (bs.length:Int) (at2:Int)=some (res))→(∃ K,∀ k,K≤k→q9.l0 k p (N:Int) c1 c2 cB cN (Of bs) (bs.length:Int) (at_:Int)=some (res)):=fun res t ht ⟨K,hK⟩=>by
   refine⟨K1+K2+K+1,fun k hk=>?_⟩
   obtain⟨k,rfl⟩:∃ m,k=m+1:=⟨k - 1,by omega⟩
   have hk1:=hK k (by omega)
   rw [q9.l0,w2N.out,if_pos (by omega),h1 _ (by omega),Option.bind_some,h2 _ (by omega),Option.bind_some]
   by_cases h0:e=0
   ·rw [if_pos h0] at ht ⊢;rw [←ht];exact hk1
   ·rw [if_neg h0] at ht ⊢;rw [←ht];exact hk1
  by_cases ht:(if e=0 then(f != 0)else true)=true
  ·refine⟨([],false),enter _ true ht.symm (Ev.succ 0 fun k _=>?_),by simp⟩
   rw [q9.j1,if_pos rfl]
  ·have ht:=Bool.eq_false_iff.mpr ht
   have hpl:(p++[a,b]).length=p.length+2:=by rw [List.length_append];rfl
   have enter2:∀ (res:List Int×Bool) (t:Bool),t=(if((p++[a,b]).length:Int)≤5 then true else if a=0 then(b != 0)else true)→(∃ K,∀ k,K≤k→q9.j2 k (p++[a,b]) t (N:Int) c1 c2 cB cN (Of bs) (bs.length:Int) (at2:Int)=some (res))→(∃ K,∀ k,K≤k→q9.l0 k p (N:Int) c1 c2 cB cN (Of bs) (bs.length:Int) (at_:Int)=some (res)):=fun res t ht2 ⟨K,hK⟩=>by
    refine enter res false ht.symm (Ev.succ K fun k hk=>?_)
    have hk1:=hK k hk
    rw [q9.j1,if_neg (by decide),Option.bind_some,if_pos (by simp only [List.length_cons,List.length_nil];omega),Option.bind_some]
    by_cases h5:((p++[a,b]).length:Int)≤5
    ·rw [if_pos h5] at ht2 ⊢;rw [←ht2];exact hk1
    ·rw [if_neg h5] at ht2 ⊢
     by_cases h0:a=0
     ·rw [if_pos h0] at ht2 ⊢;rw [←ht2];exact hk1
     ·rw [if_neg h0] at ht2 ⊢;rw [←ht2];exact hk1
   by_cases ht2:(if((p++[a,b]).length:Int)≤5 then true else if a=0 then(b != 0)else true)=true
   ·obtain⟨r,⟨K,hK⟩,hr⟩:=ih at2 (p++[a,b]) (by omega) (by omega) hl2
    refine⟨r,enter2 r true ht2.symm (Ev.succ K fun k hk=>?_),hr⟩
    rw [q9.j2,if_pos rfl]
    exact hK k hk
   ·have ht2:=Bool.eq_false_iff.mpr ht2
    obtain⟨K4,h4⟩:=aU6 bs hbs at2 hl2 4
    rcases bZ3 bs at2 hl2 with⟨z,hz,htk,hl3⟩|htk
    ·rw [htk] at h4
     have e3:=q5.mk (bW1 z hz)
     by_cases hbig:wrap64 (z:Int)>wrap64 ((N:Int) - wrap64 (Int.tdiv (wrap64 (((p++[a,b]).length:Int) - 1)) 2))
     ·refine⟨([],false),enter2 _ false ht2.symm ⟨K4+1,fun k hk=>?_⟩,by simp⟩
      obtain⟨k,rfl⟩:∃ m,k=m+1:=⟨k - 1,by omega⟩
      rw [q9.j2,if_neg (by decide),h4 k (by omega),Option.bind_some,if_pos rfl,if_pos hbig]
     ·have hq:(p++[a,b]++List.replicate (2*z) 0).length=p.length+2+2*z:=by rw [List.length_append,hpl,List.length_replicate]
      have hb1:=q5.mk hbig
      clear hbig
      obtain⟨r,⟨K,hK⟩,hr⟩:=ih (at2+4) (p++[a,b]++List.replicate (2*z) 0) (by omega) (by omega) hl3
      refine⟨r,enter2 r false ht2.symm ⟨K+K4+1,fun k hk=>?_⟩,hr⟩
      obtain⟨k,rfl⟩:∃ m,k=m+1:=⟨k - 1,by omega⟩
      rw [q9.j2,if_neg (by decide),h4 k (by omega),Option.bind_some,if_pos rfl,if_neg hb1.out,e3.out,if_pos (Int.natCast_nonneg _),Int.toNat_natCast,if_pos (by rw [hpl];omega)]
      exact hK k (by omega)
    ·rw [htk] at h4
     refine⟨([],false),enter2 _ false ht2.symm ⟨K4+1,fun k hk=>?_⟩,by simp⟩
     obtain⟨k,rfl⟩:∃ m,k=m+1:=⟨k - 1,by omega⟩
     rw [q9.j2,if_neg (by decide),h4 k (by omega),Option.bind_some,if_neg (show ¬(2:Int)=0 by decide)]
def IsC (c:Int×Int×Int×List Int×Int) (l:List Smp):Prop:=May l∧l≠[]∧C6 l=c
theorem IsC.eval {c:Int×Int×Int×List Int×Int} {l:List Smp} (h:IsC c l):(∃ K,∀ k,K≤k→q16.f k c.1 c.2.1 c.2.2.1 c.2.2.2.1 c.2.2.2.2=some ((l,0))):=by
 obtain⟨h1,h2,rfl⟩:=h
 exact bc9 l h1 h2
theorem aV3 (N F La:Int) (B:List Int) (M:Int) (hB:Byt B) (hM:I64 M) (hl:B.length≤maxLen) (hno:¬ ∃ l,IsC (N,F,La,B,M) l):(∃ K,∀ k,K≤k→q16.f k N F La B M=some (([],2))):=by
 have bad:(∃ K,∀ k,K≤k→q16.j0 k true N F La B M=some (([],2))):=by
  refine Ev.succ 0 fun k _=>?_
  rw [q16.j0,if_pos rfl]
 obtain⟨K0,h0⟩:=bad
 by_cases h1:N<1
 ·refine⟨K0,fun k hk=>?_⟩
  unfold q16.f
  rw [if_pos h1];exact h0 k hk
 by_cases h2:N>64
 ·refine⟨K0,fun k hk=>?_⟩
  unfold q16.f
  rw [if_neg h1,if_pos h2];exact h0 k hk
 obtain⟨KC,hC⟩:=be8 B hB M hM hl
 by_cases hg:Good B M
 ·rw [if_pos hg] at hC
  obtain⟨m,rfl⟩:=Int.eq_ofNat_of_zero_le hg.1
  obtain⟨n,rfl⟩:=Int.eq_ofNat_of_zero_le (show 0≤N by omega)
  have hg1:=hg.2.1
  have hO:=bT5 B hB m hg
  have hbl:=ab7 B m
  obtain⟨bs,hbs⟩:∃ bs,bs=af1 B m:=⟨_,rfl⟩
  rw [←hbs] at hO hbl
  subst hO
  rw [←hbl] at hC hno ⊢
  obtain⟨K1,e1⟩:=bX4 bs (by omega)
  obtain⟨r,⟨K2,e2⟩,hr⟩:=bD5 bs (by omega) n (by omega) F La (Of bs) (bs.length:Int) (1+2*n) 0 [(n:Int)] (by simp only [List.length_cons,List.length_nil];omega) (by simp) (Nat.zero_le _)
  have e3:∀ k,K1+K2≤k→q9.f k (n:Int) F La (Of bs) (bs.length:Int)=some r:=fun k hk=>by
   unfold q9.f
   rw [e1 k (by omega),Option.bind_some]
   exact e2 k (by omega)
  have into:∀ res,(∃ K,∀ k,K≤k→q16.j0 k false (n:Int) F La (Of bs) (bs.length:Int)=some (res))→(∃ K,∀ k,K≤k→q16.f k (n:Int) F La (Of bs) (bs.length:Int)=some (res)):=fun res ⟨K,hK⟩=>by
   refine⟨K+KC,fun k hk=>?_⟩
   unfold q16.f
   rw [if_neg h1,if_neg h2,hC k (by omega),Option.bind_some,show((0:Int) != 0)=false from rfl]
   exact hK k (by omega)
  refine into _ ?_
  obtain⟨r1,r2⟩:=r
  cases r2 with
  |false =>
   refine⟨K1+K2+1,fun k hk=>?_⟩
   obtain⟨k,rfl⟩:∃ m,k=m+1:=⟨k - 1,by omega⟩
   rw [q16.j0,if_neg (by decide),e3 k (by omega),Option.bind_some,if_neg (show ¬(false=true)by decide)]
  |true =>
   obtain⟨K3,e4⟩:=bU0 r1 (by unfold maxLen;exact Nat.le_trans hr (by decide)) []
   by_cases hd:Dat r1 []
   ·rw [if_pos hd] at e4
    obtain⟨l,hle⟩:∃ l,l=un true 0 0 0 0 (r1.drop 1):=⟨_,rfl⟩
    rw [←hle] at e4
    obtain⟨KB,eB⟩:=bC4 l
    have hOl:=n6 (gor l)
    have hm:May l:=by rw [hle];exact hd.2.1
    have hgl:=aM0 l hm.1
    by_cases hne:l≠[]
    ·rw [if_pos ⟨hm,hne⟩] at eB
     obtain⟨KE,eE⟩:=aY7 (C6 l).1 (C6 l).2.1 (C6 l).2.2.1 (C6 l).2.2.2.1 (C6 l).2.2.2.2 (n:Int) F La (Of bs) (bs.length:Int) (by show(Of (gor l)).length≤_;rw [hOl];omega)
     rw [decide_eq_false (fun h=>hno ⟨l,hm,hne,h⟩)] at eE
     refine⟨K1+K2+K3+KB+KE+1,fun k hk=>?_⟩
     obtain⟨k,rfl⟩:∃ m,k=m+1:=⟨k - 1,by omega⟩
     rw [q16.j0,if_neg (by decide),e3 k (by omega),Option.bind_some,if_pos rfl,e4 k (by omega),Option.bind_some,if_pos rfl,eB k (by omega),Option.bind_some,eE k (by omega),Option.bind_some,if_neg (by decide)]
    ·rw [if_neg (fun h=>hne h.2)] at eB
     obtain⟨KE,eE⟩:=aY7 0 0 0 [] 0 (n:Int) F La (Of bs) (bs.length:Int) (by simp)
     rw [decide_eq_false (fun h=>by have:=(Prod.mk.inj h).1;omega)] at eE
     refine⟨K1+K2+K3+KB+KE+1,fun k hk=>?_⟩
     obtain⟨k,rfl⟩:∃ m,k=m+1:=⟨k - 1,by omega⟩
     rw [q16.j0,if_neg (by decide),e3 k (by omega),Option.bind_some,if_pos rfl,e4 k (by omega),Option.bind_some,if_pos rfl,eB k (by omega),Option.bind_some,eE k (by omega),Option.bind_some,if_neg (by decide)]
   ·rw [if_neg hd] at e4
    refine⟨K1+K2+K3+1,fun k hk=>?_⟩
    obtain⟨k,rfl⟩:∃ m,k=m+1:=⟨k - 1,by omega⟩
    rw [q16.j0,if_neg (by decide),e3 k (by omega),Option.bind_some,if_pos rfl,e4 k (by omega),Option.bind_some,if_neg (by decide)]
 ·rw [if_neg hg] at hC
  refine⟨K0+KC,fun k hk=>?_⟩
  unfold q16.f
  rw [if_neg h1,if_neg h2,hC k (by omega),Option.bind_some,show((1:Int) != 0)=true from rfl]
  exact h0 k (by omega)
end Go.Proofs.Ytmddmbagehjdeaa.Q
end
section
namespace Go.Proofs.Ytmddmbagehjdeaa.Q
open Go Go.RowKit Go.Proofs.Ytmddmbagehjdeaa.G Go.Proofs.YtmddmbagehjdeaaW.PrintWords Go.Proofs.YtmddmbagehjdeaaW.PrintLast Go.Proofs.YtmddmbagehjdeaaW.PrintMore
theorem ao8 (l:List Int) (h:Byt l):V4 (strOfNums l)=l:=by
 unfold strOfNums V4
 simp only [List.map_map]
 rw [List.map_congr_left (g:=id),List.map_id]
 intro x hx
 have:=h x hx
 simp only [Function.comp,id,UInt8.toNat_ofNat',Nat.reducePow]
 omega
theorem cu9 {a b:List Int} (ha:Byt a) (hb:Byt b):(strOfNums a).toList=(strOfNums b).toList ↔ a=b :=
 ⟨fun h=>by rw [←ao8 a ha,←ao8 b hb,(as0 _ _).1 h],fun h=>by rw [h]⟩
theorem aN1 (l:List Bool):Byt (Of l):=by
 intro x hx
 unfold Of at hx
 obtain⟨j,_,rfl⟩:=List.mem_map.1 hx
 have h8:((l.drop (8*j)).take 8).length≤8:=by rw [List.length_take];omega
 have:=aN0 _ h8
 omega
theorem ak1 (a0 a1 a2:Int) (a3:List Int) (a4:Int) (b0 b1 b2:Int) (b3:List Int) (b4:Int) (ha:Byt a3) (hb:Byt b3) :
  q49.f a0 a1 a2 a3 a4 b0 b1 b2 b3 b4=some (decide ((a0,a1,a2,a3,a4)=(b0,b1,b2,b3,b4))):=by
 unfold q49.f q67.f
 by_cases h0:a0=b0
 ·by_cases h1:a1=b1
  ·by_cases h2:a2=b2
   ·by_cases h4:a4=b4
    ·rw [if_pos h0,if_pos h1,if_pos h2,if_pos h4,Option.bind_some]
     subst h0 h1 h2 h4
     by_cases h3:a3=b3
     ·subst h3;simp
     ·have:¬(strOfNums a3).toList=(strOfNums b3).toList:=fun h=>h3 ((cu9 ha hb).1 h)
      rw [beq_eq_false_iff_ne.2 this,decide_eq_false (fun h=>h3 (by simpa using h))]
    ·rw [if_pos h0,if_pos h1,if_pos h2,if_neg h4,Option.bind_some,decide_eq_false (fun h=>h4 (by simp at h;exact h.2.2.2.2))]
   ·rw [if_pos h0,if_pos h1,if_neg h2,decide_eq_false (fun h=>h2 (by simp at h;exact h.2.2.1))]
  ·rw [if_pos h0,if_neg h1,decide_eq_false (fun h=>h1 (by simp at h;exact h.2.1))]
 ·rw [if_neg h0,decide_eq_false (fun h=>h0 (by simp at h;exact h.1))]
theorem cg0:∀ n,n≤8→∀ u,u<256→∀ t,t<n→(s6 (low u n) / 2 ^ (7 - t) % 2 == 1)=(low u n).getD t false:=by decide +kernel
theorem bK7 (m:List Bool) (h:m.length≤8) (t:Nat) (ht:t<m.length):(s6 m / 2 ^ (7 - t) % 2 == 1)=m.getD t false:=by
 have hlt:=ap9 m
 have h2:2 ^ m.length≤2 ^ 8:=Nat.pow_le_pow_right (by decide) h
 have:=cg0 m.length h (bv m) (by omega) t ht
 rwa [bO6] at this
theorem bZ0 (bs:List Bool):af1 (Of bs) bs.length=bs:=by
 show(List.range bs.length).map (bit (Of bs))=bs
 apply List.ext_getElem
 ·rw [List.length_map,List.length_range]
 intro i h1 h2
 rw [List.getElem_map,List.getElem_range]
 unfold bit
 show((rd (OfT bs ((bs.length+7) / 8)) ((i / 8:Nat):Int)).toNat / 2 ^ (7 - i % 8) % 2 == 1)=bs[i]
 rw [cm9 _ _ _ (by omega),Int.toNat_natCast,bK7 _ (by rw [List.length_take];omega) _ (by rw [List.length_take,List.length_drop];omega)]
 rw [List.getD_eq_getElem?_getD,List.getElem?_take,if_pos (by omega),List.getElem?_drop,show 8*(i / 8)+i % 8=i by omega,List.getElem?_eq_getElem h2]
 rfl
theorem by9 (r:List Bool):∃ (n:Int) (j:Nat),numP r=(n,(j:Int))∧j≤r.length:=by
 unfold numP
 cases h:numb r with
 |none=>exact⟨0,0,rfl,Nat.zero_le _⟩
 |some p =>
  obtain⟨n,j⟩:=p
  exact⟨n,j,rfl,(aM2 r n j h).2⟩
theorem cr5 (N:Nat) (hN:N≤64):wrap64 (1+wrap64 (2*(N:Int)))=((1+2*N:Nat):Int):=by
 have:wrap64 (2*(N:Int))=2*(N:Int):=by rw [w64]<;>omega
 rw [this,w64]<;>omega
theorem aW9 (a b:Nat) (ha:a≤1000000) (hb:b≤1000000):wrap64 ((a:Int)+(b:Int))=((a+b:Nat):Int):=by rw [w64]<;>omega
theorem bf1 (bs:List Bool) (hbs:bs.length≤1000000) (N:Nat) (hN:N≤64) (c1 c2:Int) (cB:List Int) (cN:Int) (at_ i1 i2:Nat) (a b:Int) (p:List Int) (hp:p.length<1+2*N)
  (h1:numP (bs.drop at_)=(a,(i1:Int))) (hl1:at_+i1≤bs.length) (h2:numP (bs.drop (at_+i1))=(b,(i2:Int))) (hl2:at_+i1+i2≤bs.length)
  (res:List Smp×Bool) (t:Bool) (ht:t=(if(i1:Int)=0 then true else((i2:Int) == 0)))
  (h:(∃ K,∀ k,K≤k→q6.j2 k bs p ((at_+i1+i2:Nat):Int) a b t (N:Int) c1 c2 cB cN=some (res))) :
  (∃ K,∀ k,K≤k→q6.l0 k bs p (at_:Int) (N:Int) c1 c2 cB cN=some (res)):=by
 have w2N:=q5.mk (cr5 N hN)
 obtain⟨K1,e1⟩:=bf4 (bs.drop at_) (by rw [List.length_drop];omega)
 rw [h1] at e1
 obtain⟨K2,e2⟩:=bf4 (bs.drop (at_+i1)) (by rw [List.length_drop];omega)
 rw [h2] at e2
 have w1:=q5.mk (aW9 at_ i1 (by omega) (by omega))
 have w2:=q5.mk (aW9 (at_+i1) i2 (by omega) (by omega))
 obtain⟨K,hK⟩:=h
 refine⟨K1+K2+K+1,fun k hk=>?_⟩
 obtain⟨k,rfl⟩:∃ m,k=m+1:=⟨k - 1,by omega⟩
 have hk1:=hK k (by omega)
 rw [q6.l0,w2N.out,if_pos (by omega),if_pos (Int.natCast_nonneg _),if_pos (by omega),Int.toNat_natCast,e1 k (by omega),Option.bind_some,w1.out,if_pos (Int.natCast_nonneg _),if_pos (by omega),Int.toNat_natCast,e2 k (by omega),Option.bind_some,w2.out]
 by_cases h0:(i1:Int)=0
 ·rw [if_pos h0] at ht ⊢;subst ht;exact hk1
 ·rw [if_neg h0] at ht ⊢;subst ht;exact hk1
theorem aX2 (bs:List Bool) (N c1 c2:Int) (cB:List Int) (cN:Int) (at_ a b:Int) (p:List Int) (hp:p.length≤10000) (res:List Smp×Bool) (t:Bool)
  (ht:t=(if((p++[a,b]).length:Int)>5 then(if a=0 then(b == 0)else false)else false)) (h:(∃ K,∀ k,K≤k→q6.j3 k bs (p++[a,b]) at_ t N c1 c2 cB cN=some (res))) :
  (∃ K,∀ k,K≤k→q6.j2 k bs p at_ a b false N c1 c2 cB cN=some (res)):=by
 obtain⟨K,hK⟩:=h
 refine Ev.succ K fun k hk=>?_
 have hk1:=hK k hk
 rw [q6.j2,if_neg (by decide),Option.bind_some,if_pos (by simp only [List.length_cons,List.length_nil];omega),Option.bind_some]
 by_cases h5:((p++[a,b]).length:Int)>5
 ·rw [if_pos h5] at ht ⊢
  by_cases h0:a=0
  ·rw [if_pos h0] at ht ⊢;rw [←ht];exact hk1
  ·rw [if_neg h0] at ht ⊢;rw [←ht];exact hk1
 ·rw [if_neg h5] at ht ⊢;rw [←ht];exact hk1
theorem cP2 (bs:List Bool) (N c1 c2:Int) (cB:List Int) (cN:Int) (at_ a b:Int) (p:List Int):(∃ K,∀ k,K≤k→q6.j2 k bs p at_ a b true N c1 c2 cB cN=some (([],false))):=by
 refine Ev.succ 0 fun k _=>?_
 rw [q6.j2,if_pos rfl]
theorem bz5 (bs:List Bool) (N c1 c2:Int) (cB:List Int) (cN:Int) (at_:Int) (p:List Int) (res:List Smp×Bool) (h:(∃ K,∀ k,K≤k→q6.l0 k bs p at_ N c1 c2 cB cN=some (res))):(∃ K,∀ k,K≤k→q6.j3 k bs p at_ false N c1 c2 cB cN=some (res)):=by
 obtain⟨K,hK⟩:=h
 refine Ev.succ K fun k hk=>?_
 rw [q6.j3,if_neg (by decide)]
 exact hK k hk
theorem rep2 (i:Nat):List.replicate (2*i) (0:Int)++[0,0]=List.replicate (2*(i+1)) 0:=by
 rw [show [0,0]=List.replicate 2 (0:Int) from rfl,List.replicate_append_replicate]
 rfl
theorem bY8 (bs:List Bool) (at_:Int) (z:Nat) (hz:z≤15) (N c1 c2:Int) (cB:List Int) (cN:Int) (res:List Smp×Bool) (p:List Int) (hp:p.length≤10000)
  (h:(∃ K,∀ k,K≤k→q6.l0 k bs (p++List.replicate (2*z) 0) at_ N c1 c2 cB cN=some (res))) (d:Nat):∀ i,i+d=z→(∃ K,∀ k,K≤k→q6.l1 k bs (p++List.replicate (2*i) 0) at_ (z:Int) (i:Int) N c1 c2 cB cN=some (res)):=by
 induction d with
 |zero =>
  intro i hi
  obtain rfl:i=z:=by omega
  obtain⟨K,hK⟩:=h
  refine Ev.succ K fun k hk=>?_
  rw [q6.l1,if_neg (by omega)]
  exact hK k hk
 |succ d ih =>
  intro i hi
  obtain⟨K,hK⟩:=ih (i+1) (by omega)
  have w1:=q5.mk (aW9 i 1 (by omega) (by omega))
  refine Ev.succ K fun k hk=>?_
  rw [q6.l1,if_pos (by omega),Option.bind_some,if_pos (by simp only [List.length_append,List.length_replicate,List.length_cons,List.length_nil];omega),List.append_assoc,rep2,show(1:Int)=((1:Nat):Int) from rfl,w1.out]
  exact hK k hk
theorem bW2 (bs:List Bool) (hbs:bs.length≤1000000) (N c1 c2:Int) (cB:List Int) (cN:Int) (at_:Nat) (hat:at_+4≤bs.length) (p:List Int) (hp:p.length≤10000) (res:List Smp×Bool)
  (h:(∃ K,∀ k,K≤k→q6.l0 k bs (p++List.replicate (2*bv ((bs.drop at_).take 4)) 0) ((at_+4:Nat):Int) N c1 c2 cB cN=some (res))):(∃ K,∀ k,K≤k→q6.j3 k bs p (at_:Int) true N c1 c2 cB cN=some (res)):=by
 have hlen:((bs.drop at_).take 4).length=4:=by rw [List.length_take,List.length_drop];omega
 have hlt:=ap9 ((bs.drop at_).take 4)
 rw [hlen] at hlt
 obtain⟨K1,e1⟩:=bx2 ((bs.drop at_).take 4) (by omega)
 obtain⟨z,hz⟩:∃ z,z=bv ((bs.drop at_).take 4):=⟨_,rfl⟩
 rw [←hz] at e1 hlt h
 obtain⟨K2,e2⟩:=bY8 bs _ z (by omega) N c1 c2 cB cN res p hp h z 0 (by omega)
 rw [Nat.mul_zero,List.replicate_zero,List.append_nil] at e2
 have w1:=q5.mk (aW9 at_ 4 (by omega) (by omega))
 have w2:=q5.mk (show wrap64 (z:Int)=(z:Int)by rw [w64]<;>omega)
 refine⟨K1+K2+1,fun k hk=>?_⟩
 obtain⟨k,rfl⟩:∃ m,k=m+1:=⟨k - 1,by omega⟩
 rw [q6.j3,if_pos rfl,show(4:Int)=((4:Nat):Int) from rfl,w1.out,if_neg (by omega),if_pos (Int.natCast_nonneg _),if_pos (by omega),if_pos (by omega),Int.toNat_natCast,Int.toNat_natCast,List.drop_take,show at_+4 - at_=4 by omega,e1 k (by omega),Option.bind_some,w2.out]
 exact e2 k (by omega)
theorem cc6 (bs:List Bool) (hbs:bs.length≤1000000) (N c1 c2:Int) (cB:List Int) (cN:Int) (at_:Nat) (h1:at_≤bs.length) (hat:¬ at_+4≤bs.length) (p:List Int):(∃ K,∀ k,K≤k→q6.j3 k bs p (at_:Int) true N c1 c2 cB cN=some (([],false))):=by
 have w1:=q5.mk (aW9 at_ 4 (by omega) (by omega))
 refine Ev.succ 0 fun k _=>?_
 rw [q6.j3,if_pos rfl,show(4:Int)=((4:Nat):Int) from rfl,w1.out,if_pos (by omega)]
open Classical in
theorem bW6 (bs:List Bool) (p:List Int) (at_:Int) (N:Nat) (hN:N≤64) (F La:Int) (B:List Int) (M:Int) (hB:Byt B) (hp:1+2*N≤p.length) :
  (∃ K,∀ k,K≤k→q6.l0 k bs p at_ (N:Int) F La B M=some ((if Dat p []∧IsC ((N:Int),F,La,B,M) (un true 0 0 0 0 (p.drop 1))then(un true 0 0 0 0 (p.drop 1),true)else([],false)))):=by
 have w2N:=q5.mk (cr5 N hN)
 obtain⟨K1,e1⟩:=cI7 p []
 by_cases hd:Dat p []
 ·rw [if_pos hd] at e1
  obtain⟨l,hl⟩:∃ l,l=un true 0 0 0 0 (p.drop 1):=⟨_,rfl⟩
  have hm:May l:=by rw [hl];exact hd.2.1
  rw [←hl] at e1 ⊢
  by_cases hne:l=[]
  ·refine⟨K1+1,fun k hk=>?_⟩
   obtain⟨k,rfl⟩:∃ m,k=m+1:=⟨k - 1,by omega⟩
   rw [q6.l0,w2N.out,if_neg (by omega),e1 k (by omega),Option.bind_some,if_pos rfl,if_pos (by rw [hne];rfl),if_neg (fun h=>h.2.2.1 hne)]
  ·obtain⟨K2,e2⟩:=bE9 l hm hne
   have hS:=ak1 (C6 l).1 (C6 l).2.1 (C6 l).2.2.1 (C6 l).2.2.2.1 (C6 l).2.2.2.2 (N:Int) F La B M (aN1 _) hB
   have hpos:0<l.length:=List.length_pos_iff.2 hne
   refine⟨K1+K2+1,fun k hk=>?_⟩
   obtain⟨k,rfl⟩:∃ m,k=m+1:=⟨k - 1,by omega⟩
   rw [q6.l0,w2N.out,if_neg (by omega),e1 k (by omega),Option.bind_some,if_pos rfl,if_neg (show ¬(l.length:Int)=0 by omega),e2 k (by omega),Option.bind_some,hS,Option.bind_some]
   by_cases hc:C6 l=((N:Int),F,La,B,M)
   ·rw [decide_eq_true (show((C6 l).1,(C6 l).2.1,(C6 l).2.2.1,(C6 l).2.2.2.1,(C6 l).2.2.2.2)=_ from hc),if_pos rfl,if_pos ⟨hd,hm,hne,hc⟩]
   ·rw [decide_eq_false (fun h=>hc h),if_neg (by decide),if_neg (fun h=>hc h.2.2.2)]
 ·rw [if_neg hd] at e1
  refine⟨K1+1,fun k hk=>?_⟩
  obtain⟨k,rfl⟩:∃ m,k=m+1:=⟨k - 1,by omega⟩
  rw [q6.l0,w2N.out,if_neg (by omega),e1 k (by omega),Option.bind_some,if_neg (show ¬(false=true)by decide),if_neg (fun h=>hd h.1)]
theorem cv5 (bs:List Bool) (hbs:bs.length≤1000000) (N:Nat) (hN:N≤64) (c1 c2:Int) (cB:List Int) (cN:Int)
  (hE:∀ (p:List Int) (at_:Nat),1+2*N≤p.length→(∃ K,∀ k,K≤k→q6.l0 k bs p (at_:Int) (N:Int) c1 c2 cB cN=some (([],false)))) (d:Nat):∀ (at_:Nat) (p:List Int),1+2*N - p.length≤d→p.length≤200→at_≤bs.length →
  (∃ K,∀ k,K≤k→q6.l0 k bs p (at_:Int) (N:Int) c1 c2 cB cN=some (([],false))):=by
 induction d with
 |zero=>intro at_ p hd hp _;exact hE p at_ (by omega)
 |succ d ih =>
  intro at_ p hd hp hat
  by_cases hdone:1+2*N≤p.length
  ·exact hE p at_ hdone
  obtain⟨a,i1,h1,hl1⟩:=by9 (bs.drop at_)
  rw [List.length_drop] at hl1
  obtain⟨b,i2,h2,hl2⟩:=by9 (bs.drop (at_+i1))
  rw [List.length_drop] at hl2
  have hl1:at_+i1≤bs.length:=by omega
  have hl2:at_+i1+i2≤bs.length:=by omega
  refine bf1 bs hbs N hN c1 c2 cB cN at_ i1 i2 a b p (by omega) h1 hl1 h2 hl2 _ _ rfl ?_
  by_cases ht:(if(i1:Int)=0 then true else((i2:Int) == 0))=true
  ·rw [ht];exact cP2 ..
  rw [Bool.eq_false_iff.mpr ht]
  have hpl:(p++[a,b]).length=p.length+2:=by rw [List.length_append];rfl
  refine aX2 bs N c1 c2 cB cN _ a b p (by omega) _ _ rfl ?_
  by_cases ht2:(if((p++[a,b]).length:Int)>5 then(if a=0 then(b == 0)else false)else false)=true
  ·rw [ht2]
   by_cases h4:at_+i1+i2+4≤bs.length
   ·refine bW2 bs hbs N c1 c2 cB cN _ h4 _ (by omega) _ ?_
    have hlen:((bs.drop (at_+i1+i2)).take 4).length=4:=by rw [List.length_take,List.length_drop];omega
    have hlt:=ap9 ((bs.drop (at_+i1+i2)).take 4)
    rw [hlen] at hlt
    refine ih _ _ ?_ ?_ h4
    ·rw [List.length_append,hpl];omega
    ·rw [List.length_append,hpl,List.length_replicate];omega
   ·exact cc6 bs hbs N c1 c2 cB cN _ hl2 h4 _
  ·rw [Bool.eq_false_iff.mpr ht2]
   exact bz5 _ _ _ _ _ _ _ _ _ (ih _ _ (by omega) (by omega) hl2)
theorem cn3 (bs:List Bool) (hbs:bs.length≤1000000) (N:Nat) (hN:N≤64) (c1 c2:Int) (cB:List Int) (cN:Int) (res:List Smp×Bool) (P:List Int) (hP:P.length=1+2*N)
  (hE:∀ (at_:Nat),(∃ K,∀ k,K≤k→q6.l0 k bs P (at_:Int) (N:Int) c1 c2 cB cN=some (res))) (d:Nat):∀ (j at_:Nat) (p q:List Int),N - j≤d→j≤N→p++q=P→p.length=1+2*j→(∀ x ∈ q,I64 x)→at_≤bs.length→bs.drop at_=gq j q →
  (∃ K,∀ k,K≤k→q6.l0 k bs p (at_:Int) (N:Int) c1 c2 cB cN=some (res)):=by
 have done:∀ (j at_:Nat) (p q:List Int),j=N→p++q=P→p.length=1+2*j→(∃ K,∀ k,K≤k→q6.l0 k bs p (at_:Int) (N:Int) c1 c2 cB cN=some (res)):=fun j at_ p q hj hpq hp=>by
  have hq0:q=[]:=List.eq_nil_of_length_eq_zero (by have:=congrArg List.length hpq;rw [List.length_append] at this;omega)
  rw [hq0,List.append_nil] at hpq
  rw [hpq];exact hE at_
 induction d with
 |zero=>intro j at_ p q hd hj hpq hp _ _ _;exact done j at_ p q (by omega) hpq hp
 |succ d ih =>
  intro j at_ p q hd hj hpq hp hI hat hdr
  by_cases hjN:j=N
  ·exact done j at_ p q hjN hpq hp
  have hq:q.length=2*(N - j):=by have:=congrArg List.length hpq;rw [List.length_append] at this;omega
  match q,hq,hI,hdr,hpq with
  |[],hq,_,_,_=>simp at hq;omega
  |[_],hq,_,_,_=>simp at hq;omega
  |a::b::q,hq,hI,hdr,hpq =>
   simp only [List.length_cons] at hq
   have ia:I64 a:=hI a (by simp)
   have ib:I64 b:=hI b (by simp)
   have iq:∀ x ∈ q,I64 x:=fun x hx=>hI x (by simp [hx])
   obtain⟨r,hr,hrest⟩:∃ r,gq j (a::b::q)=G5 a++(G5 b++r)∧((j<2∨¬(a=0∧b=0))∧r=gq (j+1) q∨(2≤j∧a=0∧b=0)∧r=low (zr 15 q) 4++gq (j+1+zr 15 q) (q.drop (2*zr 15 q))):=by
    by_cases h:j<2∨¬(a=0∧b=0)
    ·exact⟨_,aw8 j a b q h,.inl ⟨h,rfl⟩⟩
    ·have hj2:2≤j:=by omega
     have h0:a=0∧b=0:=by
      by_cases h1:a=0∧b=0
      ·exact h1
      ·exact absurd (Or.inr h1) h
     refine⟨_,?_,.inr ⟨⟨hj2,h0.1,h0.2⟩,rfl⟩⟩
     rw [h0.1,h0.2,ck3,aU9 j q hj2]
     rfl
   rw [hr] at hdr
   have hd2:=al1 _ _ _ _ hdr
   have hl1:=aB8 _ _ _ _ hdr hat
   have hd3:=al1 _ _ _ _ hd2
   have hl2:=aB8 _ _ _ _ hd2 hl1
   have n1:numb (bs.drop at_)=some (a,(G5 a).length):=by rw [hdr];exact aH2 a ia _
   have n2:numb (bs.drop (at_+(G5 a).length))=some (b,(G5 b).length):=by rw [hd2];exact aH2 b ib _
   have p1:numP (bs.drop at_)=(a,((G5 a).length:Int)):=by unfold numP;rw [n1]
   have p2:numP (bs.drop (at_+(G5 a).length))=(b,((G5 b).length:Int)):=by unfold numP;rw [n2]
   have g1:=(aM2 _ _ _ n1).1
   have g2:=(aM2 _ _ _ n2).1
   have hpl:(p++[a,b]).length=1+2*(j+1):=by rw [List.length_append,hp];rfl
   have hpq2:(p++[a,b])++q=P:=by rw [←hpq,List.append_assoc];rfl
   refine bf1 bs hbs N hN c1 c2 cB cN at_ _ _ a b p (by omega) p1 hl1 p2 hl2 _ false ?_ ?_
   ·rw [if_neg (by omega)]
    exact(beq_eq_false_iff_ne.2 (by omega)).symm
   rcases hrest with⟨hc,hr1⟩|⟨⟨hj2,ha0,hb0⟩,hr1⟩
   ·rw [hr1] at hd3
    refine aX2 bs N c1 c2 cB cN _ a b p (by omega) _ false ?_ (bz5 _ _ _ _ _ _ _ _ _ (ih (j+1) _ _ q (by omega) (by omega) hpq2 hpl iq hl2 hd3))
    by_cases h5:((p++[a,b]).length:Int)>5
    ·rw [if_pos h5]
     rcases hc with hc|hc
     ·omega
     ·by_cases h0:a=0
      ·have:b≠0:=fun h4=>hc ⟨h0,h4⟩
       rw [if_pos h0];simpa using this
      ·rw [if_neg h0]
    ·rw [if_neg h5]
   ·obtain⟨z,hz⟩:∃ z,z=zr 15 q:=⟨_,rfl⟩
    have hz1:=bh8 15 q
    have hz2:=aG2 15 q
    have hz3:=bO3 15 q
    rw [←hz] at hr1 hz1 hz2 hz3
    rw [hr1] at hd3
    have ll:=L6 z 4
    have hd4:=al1 _ _ _ _ hd3
    have hl3:=aB8 _ _ _ _ hd3 hl2
    rw [ll] at hd4 hl3
    refine aX2 bs N c1 c2 cB cN _ a b p (by omega) _ true ?_ (bW2 bs hbs N c1 c2 cB cN _ hl3 _ (by omega) _ ?_)
    ·rw [if_pos (by omega),if_pos ha0,hb0];rfl
    ·have e:((bs.drop (at_+(G5 a).length+(G5 b).length)).take 4)=low z 4:=by
      rw [hd3,List.take_append_of_le_length (by omega),List.take_of_length_le (by omega)]
     rw [e,aN4,Nat.mod_eq_of_lt (show z<2 ^ 4 by omega)]
     refine ih (j+1+z) _ _ (q.drop (2*z)) (by omega) (by omega) ?_ (by rw [List.length_append,hpl,List.length_replicate];omega) (fun x hx=>iq x (List.mem_of_mem_drop hx)) hl3 hd4
     rw [List.append_assoc,←hz3];exact hpq2
theorem bA9 (N:Nat) (h0:1≤N) (hN:N≤64) (F La:Int) (bs:List Bool) (hbs:bs.length≤131072) (hg:Good (Of bs) (bs.length:Int)) (res:List Smp×Bool)
  (h:(∃ K,∀ k,K≤k→q6.l0 k bs [(N:Int)] ((0:Nat):Int) (N:Int) F La (Of bs) (bs.length:Int)=some (res))):(∃ K,∀ k,K≤k→q6.f k (N:Int) F La (Of bs) (bs.length:Int)=some (res)):=by
 obtain⟨K,hK⟩:=h
 have hO:=n6 bs
 obtain⟨KL,eL⟩:=cy9 (Of bs) (aN1 bs) bs.length hbs (by rw [hO];omega)
 rw [bZ0] at eL
 have hM:=bX1 (Of bs) (aN1 bs) (bs.length:Int) (by unfold I64;omega) (by rw [hO];unfold maxLen;omega)
 rw [decide_eq_true hg] at hM
 refine⟨K+KL+1,fun k hk=>?_⟩
 obtain⟨k,rfl⟩:∃ m,k=m+1:=⟨k - 1,by omega⟩
 unfold q6.f
 rw [if_neg (by omega),if_neg (by omega),hM,Option.bind_some,show(!true)=false from rfl,q6.j0,if_neg (by decide),eL k (by omega),Option.bind_some]
 exact hK k (by omega)
theorem cw6 (bs:List Bool) (hbs:bs.length≤131072):Good (Of bs) (bs.length:Int):=by
 have hO:=n6 bs
 obtain⟨K1,h1⟩:=ax9 bs hbs
 obtain⟨K2,h2⟩:=be8 (Of bs) (aN1 bs) (bs.length:Int) (by unfold I64;omega) (by rw [hO];unfold maxLen;omega)
 have a:=h1 (K1+K2) (by omega)
 have b:=h2 (K1+K2) (by omega)
 rw [a] at b
 by_cases h:Good (Of bs) (bs.length:Int)
 ·exact h
 ·rw [if_neg h] at b
  injection b with b
  omega
theorem IsC.ref {N F La:Int} {B:List Int} {M:Int} {l:List Smp} (h:IsC (N,F,La,B,M) l):(∃ K,∀ k,K≤k→q6.f k N F La B M=some ((l,true))):=by
 classical
 obtain⟨hm,hne,hc⟩:=h
 have h64:=hm.1
 have hpos:0<l.length:=List.length_pos_iff.2 hne
 have hgl:=aM0 l h64
 have e1:N=(l.length:Int):=(congrArg Prod.fst hc).symm
 have e2:B=Of (gor l):=(congrArg (fun x=>x.2.2.2.1) hc).symm
 have e3:M=((gor l).length:Int):=(congrArg (fun x=>x.2.2.2.2) hc).symm
 subst e1 e2 e3
 have hi:=aC8 l hm
 refine bA9 l.length hpos h64 F La (gor l) (by omega) (cw6 _ (by omega)) _ (cn3 (gor l) (by omega) l.length h64 F La _ _ _ (P7 l) (by rw [ag7]) (fun at_=>?_) l.length 0 0 [(l.length:Int)] ((P7 l).drop 1) (by omega) (by omega) rfl rfl (fun x hx=>hi x (List.mem_of_mem_drop hx)) (Nat.zero_le _) rfl)
 have:=bW6 (gor l) (P7 l) (at_:Int) l.length h64 F La (Of (gor l)) ((gor l).length:Int) (aN1 _) (by rw [ag7];exact Nat.le_refl _)
 rwa [aL4,if_pos ⟨bj7 l hm,hm,hne,hc⟩] at this
theorem aE4 (N F La:Int) (B:List Int) (M:Int) (hB:Byt B) (hM:I64 M) (hl:B.length≤maxLen) (hno:¬ ∃ l,IsC (N,F,La,B,M) l):(∃ K,∀ k,K≤k→q6.f k N F La B M=some (([],false))):=by
 classical
 have bad:(∃ K,∀ k,K≤k→q6.j0 k true N F La B M=some (([],false))):=by
  refine Ev.succ 0 fun k _=>?_
  rw [q6.j0,if_pos rfl]
 obtain⟨K0,h0⟩:=bad
 by_cases h1:N<1
 ·refine⟨K0,fun k hk=>?_⟩
  unfold q6.f
  rw [if_pos h1];exact h0 k hk
 by_cases h2:N>64
 ·refine⟨K0,fun k hk=>?_⟩
  unfold q6.f
  rw [if_neg h1,if_pos h2];exact h0 k hk
 have hC:=bX1 B hB M hM hl
 by_cases hg:Good B M
 ·obtain⟨m,rfl⟩:=Int.eq_ofNat_of_zero_le hg.1
  obtain⟨n,rfl⟩:=Int.eq_ofNat_of_zero_le (show 0≤N by omega)
  have hg1:=hg.2.1
  have hO:=bT5 B hB m hg
  have hbl:=ab7 B m
  obtain⟨bs,hbs⟩:∃ bs,bs=af1 B m:=⟨_,rfl⟩
  rw [←hbs] at hO hbl
  subst hO
  rw [←hbl] at hno hg ⊢
  refine bA9 n (by omega) (by omega) F La bs (by omega) hg _ (cv5 bs (by omega) n (by omega) F La _ _ (fun p at_ hp=>?_) (1+2*n) 0 [(n:Int)] (by simp only [List.length_cons,List.length_nil];omega) (by simp) (Nat.zero_le _))
  have:=bW6 bs p (at_:Int) n (by omega) F La (Of bs) (bs.length:Int) (aN1 _) hp
  rwa [if_neg (fun h=>hno ⟨_,h.2⟩)] at this
 ·rw [decide_eq_false hg] at hC
  refine⟨K0,fun k hk=>?_⟩
  unfold q6.f
  rw [if_neg h1,if_neg h2,hC,Option.bind_some]
  exact h0 k hk
end Go.Proofs.Ytmddmbagehjdeaa.Q
end
section
namespace Go.Proofs.Ytmddmbagehjdeaa.Q
open Go Go.RowKit Go.Proofs.Ytmddmbagehjdeaa.G Go.Proofs.YtmddmbagehjdeaaW.PrintWords Go.Proofs.YtmddmbagehjdeaaW.PrintLast
theorem cr1 (a b:List Int) (hab:a.length=b.length) (hl:a.length≤9223372036854775807) (d:Nat):∀ i:Nat,i+d=a.length→(∃ K,∀ k,K≤k→q42.l0 k a b (a.length:Int) i=some ((decide (a.drop i=b.drop i)))):=by
 induction d with
 |zero =>
  intro i hi
  refine Ev.succ 0 fun k _=>?_
  simp only [q42.l0]
  rw [if_neg (by omega),List.drop_of_length_le (by omega),List.drop_of_length_le (by omega)]
  rfl
 |succ d ih =>
  intro i hi
  obtain⟨K,hK⟩:=ih (i+1) (by omega)
  refine Ev.succ K fun k hk=>?_
  simp only [q42.l0]
  rw [if_pos (by omega),if_pos (by omega),if_pos (by omega),if_pos (by omega),aA1 a i (by omega),aA1 b i (by omega),show wrap64 ((i:Int)+1)=((i+1:Nat):Int)by rw [w64]<;>omega,hK k hk]
  by_cases h:rd a i=rd b i
  ·rw [if_pos h,h];simp
  ·rw [if_neg h];simp [h]
theorem cG7 (a b:List Int) (hl:a.length≤9223372036854775807):(∃ K,∀ k,K≤k→q42.f k a b=some ((decide (a=b)))):=by
 by_cases h:a.length=b.length
 ·obtain⟨K,hK⟩:=cr1 a b h hl a.length 0 (by omega)
  refine⟨K,fun k hk=>?_⟩
  unfold q42.f
  rw [if_pos (by omega)]
  simpa using hK k hk
 ·refine⟨0,fun k _=>?_⟩
  unfold q42.f
  rw [if_neg (by omega),decide_eq_false (fun e=>h (by rw [e]))]
theorem cl9 (a b:List ByteArray) (hab:a.length=b.length) (hl:a.length≤9223372036854775807) (d:Nat):∀ i:Nat,i+d=a.length→(∃ K,∀ k,K≤k→q33.l0 k a b (a.length:Int) i=some ((decide (a.drop i=b.drop i)))):=by
 induction d with
 |zero =>
  intro i hi
  refine Ev.succ 0 fun k _=>?_
  simp only [q33.l0]
  rw [if_neg (by omega),List.drop_of_length_le (by omega),List.drop_of_length_le (by omega)]
  rfl
 |succ d ih =>
  intro i hi
  obtain⟨K,hK⟩:=ih (i+1) (by omega)
  refine Ev.succ K fun k hk=>?_
  simp only [q33.l0]
  rw [if_pos (by omega),if_pos (by omega),if_pos (by omega),if_pos (by omega),aT4 a i (by omega),aT4 b i (by omega),show wrap64 ((i:Int)+1)=((i+1:Nat):Int)by rw [w64]<;>omega,hK k hk]
  by_cases h:rdOf ByteArray.empty a i=rdOf ByteArray.empty b i
  ·rw [if_pos (by rw [h]),h];simp
  ·rw [if_neg (fun e=>h ((as0 _ _).1 e))];simp [h]
theorem cK0 (a b:List ByteArray) (hl:a.length≤9223372036854775807):(∃ K,∀ k,K≤k→q33.f k a b=some ((decide (a=b)))):=by
 by_cases h:a.length=b.length
 ·obtain⟨K,hK⟩:=cl9 a b h hl a.length 0 (by omega)
  refine⟨K,fun k hk=>?_⟩
  unfold q33.f
  rw [if_pos (by omega)]
  simpa using hK k hk
 ·refine⟨0,fun k _=>?_⟩
  unfold q33.f
  rw [if_neg (by omega),decide_eq_false (fun e=>h (by rw [e]))]
theorem ck1 (a:List Int) (s:List ByteArray) (b:List Int) (t:List ByteArray) (h1:a.length≤9223372036854775807) (h2:s.length≤9223372036854775807) :
  (∃ K,∀ k,K≤k→q73.f k a s b t=some ((decide (a=b∧s=t)))):=by
 obtain⟨K1,hK1⟩:=cG7 a b h1
 obtain⟨K2,hK2⟩:=cK0 s t h2
 refine⟨K1+K2,fun k hk=>?_⟩
 unfold q73.f
 rw [hK1 k (by omega),Option.bind_some]
 by_cases h:a=b
 ·rw [decide_eq_true h,if_pos rfl,hK2 k (by omega)]
  simp [h]
 ·rw [decide_eq_false h,if_neg (by simp)]
  simp [h]
end Go.Proofs.Ytmddmbagehjdeaa.Q
end
section
namespace Go.Proofs.Ytmddmbagehjdeaa.Q
open Go Go.RowKit Go.Proofs.Ytmddmbagehjdeaa.G Go.Proofs.YtmddmbagehjdeaaW.PrintWords Go.Proofs.YtmddmbagehjdeaaW.PrintLast Go.Proofs.YtmddmbagehjdeaaW.PrintMore
theorem ay4 (s:ByteArray):strOfNums (V4 s)=s:=by
 refine(as0 _ _).1 ?_
 rw [ao3,ao3]
 unfold strOfNums V4
 simp only [List.map_map]
 rw [List.map_congr_left (g:=id),List.map_id]
 intro x _
 have:=x.toNat_lt
 simp
theorem ao5 (s:ByteArray):Byt (V4 s):=by
 intro x hx
 simp only [V4,List.mem_map] at hx
 obtain⟨c,_,rfl⟩:=hx
 have:=c.toNat_lt
 omega
theorem bI3 (l:List Int):(strOfNums l).size=l.length:=by
 unfold strOfNums
 show(l.map _).toArray.size=_
 simp
def cC3 (d:List Int) (t:List ByteArray):Prop:=∃ (n0 n1 n2 n3:Int) (s:ByteArray),d=[n0,n1,n2,n3]∧t=[s]∧s.size≤4096∧∃ l,IsC (n0,n1,n2,V4 s,n3) l
theorem db2 (d:List Int) (h:d.length=4):∃ a b c e,d=[a,b,c,e]:=by
 rcases d with _|⟨a,_|⟨b,_|⟨c,_|⟨e,_|⟨f,r⟩⟩⟩⟩⟩
 ·cases h
 ·cases h
 ·cases h
 ·cases h
 ·exact⟨a,b,c,e,rfl⟩
 ·simp at h
theorem one_ (d:List ByteArray) (h:d.length=1):∃ a,d=[a]:=by
 rcases d with _|⟨a,_|⟨f,r⟩⟩
 ·cases h
 ·exact⟨a,rfl⟩
 ·simp at h
theorem bU5 {N F La:Int} {B:List Int} {M:Int} {l:List Smp} (h:IsC (N,F,La,B,M) l):(∃ K,∀ k,K≤k→q56.f k N F La B M=some (([N,F,La,M],[strOfNums B],0))):=by
 obtain⟨K,hK⟩:=h.eval
 refine⟨K,fun k hk=>?_⟩
 unfold q56.f q62.f
 rw [hK k hk,Option.bind_some,Option.bind_some,if_pos rfl]
theorem cL5 (N F La:Int) (B:List Int) (M:Int) (hB:Byt B) (hM:I64 M) (hl:B.length≤maxLen) (hno:¬ ∃ l,IsC (N,F,La,B,M) l):(∃ K,∀ k,K≤k→q56.f k N F La B M=some (([],[],2))):=by
 obtain⟨K,hK⟩:=aV3 N F La B M hB hM hl hno
 refine⟨K,fun k hk=>?_⟩
 unfold q56.f q62.f
 rw [hK k hk,Option.bind_some,Option.bind_some,if_neg (by decide)]
theorem bS8 {n0 n1 n2 n3:Int} {s:ByteArray} (hs:s.size≤4096) {l:List Smp} (h:IsC (n0,n1,n2,V4 s,n3) l):(∃ K,∀ k,K≤k→q28.f k [n0,n1,n2,n3] [s]=some ((n0,n1,n2,V4 s,n3,0))):=by
 obtain⟨K1,h1⟩:=h.eval
 obtain⟨K2,h2⟩:=bU5 h
 obtain⟨K3,h3⟩:=ck1 [n0,n1,n2,n3] [strOfNums (V4 s)] [n0,n1,n2,n3] [s] (by simp) (by simp)
 rw [ay4] at h2 h3
 have e0:rdOf ByteArray.empty [s] 0=s:=rfl
 refine⟨K1+K2+K3+1,fun k hk=>?_⟩
 obtain⟨k,rfl⟩:∃ m,k=m+1:=⟨k - 1,by omega⟩
 unfold q28.f
 rw [if_pos (by rfl),if_pos (by rfl),if_pos (by simp),e0,decide_eq_false (by omega)]
 rw [q28.j0]
 unfold q62.f
 rw [if_neg (by decide),if_pos (by simp),if_pos (by simp),if_pos (by simp),if_pos (by simp),e0,if_pos (by omega),Option.bind_some,if_pos (by simp)]
 show(((q16.f k n0 n1 n2 (V4 s) n3).bind fun co7=>(some co7.2)).bind fun aX0=>_)=_
 rw [h1 k (by omega),Option.bind_some,Option.bind_some,if_pos rfl]
 show((q56.f k n0 n1 n2 (V4 s) n3).bind fun aX0=>_)=_
 rw [h2 k (by omega),Option.bind_some,if_pos rfl,h3 k (by omega),Option.bind_some,if_pos (by simp)]
 rfl
theorem cj8 {n0 n1 n2 n3:Int} {s:ByteArray} (hs:s.size≤4096) {l:List Smp} (h:IsC (n0,n1,n2,V4 s,n3) l):(∃ K,∀ k,K≤k→q13.f k [n0,n1,n2,n3] [s]=some ((n0,n1,n2,V4 s,n3,true))):=by
 obtain⟨K1,h1⟩:=h.ref
 obtain⟨K3,h3⟩:=aN7 [n0,n1,n2,n3] [strOfNums (V4 s)] [n0,n1,n2,n3] [s] (by simp) (by simp)
 rw [ay4] at h3
 have e0:rdOf ByteArray.empty [s] 0=s:=rfl
 refine⟨K1+K3+1,fun k hk=>?_⟩
 obtain⟨k,rfl⟩:∃ m,k=m+1:=⟨k - 1,by omega⟩
 unfold q13.f
 rw [if_pos (by rfl),if_pos (by rfl),if_pos (by simp),e0,decide_eq_false (by omega)]
 rw [q13.j0]
 rw [if_neg (by decide),if_pos (by simp),if_pos (by simp),if_pos (by simp),if_pos (by simp),e0,if_pos (by omega),Option.bind_some,if_pos (by simp)]
 show((q6.f k n0 n1 n2 (V4 s) n3).bind fun aX0=>_)=_
 rw [h1 k (by omega),Option.bind_some,if_pos rfl]
 unfold q55.f
 rw [Option.bind_some]
 show((q50.f k [n0,n1,n2,n3] [strOfNums (V4 s)] [n0,n1,n2,n3] [s]).bind fun aX0=>_)=_
 rw [ay4,h3 k (by omega),Option.bind_some,if_pos (by simp)]
 rfl
theorem cF9 (d:List Int) (t:List ByteArray) (hd:∀ x ∈ d,I64 x) (hno:¬ cC3 d t):(∃ K,∀ k,K≤k→q28.f k d t=some ((0,0,0,[],0,2)))∧(∃ K,∀ k,K≤k→q13.f k d t=some ((0,0,0,[],0,false))):=by
 have o1:∀ k,q28.j0 (k+1) true d t=some (0,0,0,[],0,2):=fun k=>by rw [q28.j0,if_pos rfl]
 have o2:∀ k,q13.j0 (k+1) true d t=some (0,0,0,[],0,false):=fun k=>by rw [q13.j0,if_pos rfl]
 by_cases h4:d.length=4
 case neg =>
  refine⟨Ev.succ 0 fun k _=>?_,Ev.succ 0 fun k _=>?_⟩
  ·unfold q28.f
   rw [if_neg (by omega),o1]
  ·unfold q13.f
   rw [if_neg (by omega),o2]
 by_cases h1:t.length=1
 case neg =>
  refine⟨Ev.succ 0 fun k _=>?_,Ev.succ 0 fun k _=>?_⟩
  ·unfold q28.f
   rw [if_pos (by omega),if_neg (by omega),o1]
  ·unfold q13.f
   rw [if_pos (by omega),if_neg (by omega),o2]
 obtain⟨n0,n1,n2,n3,rfl⟩:=db2 d h4
 obtain⟨s,rfl⟩:=one_ t h1
 have e0:rdOf ByteArray.empty [s] 0=s:=rfl
 by_cases hs:s.size≤4096
 case neg =>
  refine⟨Ev.succ 0 fun k _=>?_,Ev.succ 0 fun k _=>?_⟩
  ·unfold q28.f
   rw [if_pos (by rfl),if_pos (by rfl),if_pos (by simp),e0,decide_eq_true (by omega),o1]
  ·unfold q13.f
   rw [if_pos (by rfl),if_pos (by rfl),if_pos (by simp),e0,decide_eq_true (by omega),o2]
 have hno':¬ ∃ l,IsC (n0,n1,n2,V4 s,n3) l:=fun h=>hno ⟨n0,n1,n2,n3,s,rfl,rfl,hs,h⟩
 have hml:(V4 s).length≤maxLen:=by rw [ab0];unfold maxLen;omega
 obtain⟨K1,h1⟩:=aV3 n0 n1 n2 (V4 s) n3 (ao5 s) (hd n3 (by simp)) hml hno'
 obtain⟨K2,h2⟩:=aE4 n0 n1 n2 (V4 s) n3 (ao5 s) (hd n3 (by simp)) hml hno'
 refine⟨Ev.succ K1 fun k hk=>?_,Ev.succ K2 fun k hk=>?_⟩
 ·unfold q28.f
  rw [if_pos (by rfl),if_pos (by rfl),if_pos (by simp),e0,decide_eq_false (by omega)]
  rw [q28.j0]
  unfold q62.f
  rw [if_neg (by decide),if_pos (by simp),if_pos (by simp),if_pos (by simp),if_pos (by simp),e0,if_pos (by omega),Option.bind_some,if_pos (by simp)]
  show(((q16.f k n0 n1 n2 (V4 s) n3).bind fun co7=>(some co7.2)).bind fun aX0=>_)=_
  rw [h1 k (by omega),Option.bind_some,Option.bind_some,if_neg (by decide)]
 ·unfold q13.f
  rw [if_pos (by rfl),if_pos (by rfl),if_pos (by simp),e0,decide_eq_false (by omega)]
  rw [q13.j0]
  rw [if_neg (by decide),if_pos (by simp),if_pos (by simp),if_pos (by simp),if_pos (by simp),e0,if_pos (by omega),Option.bind_some,if_pos (by simp)]
  show((q6.f k n0 n1 n2 (V4 s) n3).bind fun aX0=>_)=_
  rw [h2 k (by omega),Option.bind_some,if_neg (by decide)]
theorem co5 (N F La:Int) (B:List Int) (M:Int) (hB:Byt B) (hM:I64 M) (hl:B.length≤1300):∃ E:List Int×List ByteArray×Int,(∃ K,∀ k,K≤k→q56.f k N F La B M=some (E))∧(∃ K,∀ k,K≤k→q11.j1 k E.2.2 false N F La B M E.1 E.2.1=some (true)):=by
 obtain⟨KA,hA⟩:=aZ7
 have hml:B.length≤maxLen:=by unfold maxLen;omega
 by_cases hyes:∃ l,IsC (N,F,La,B,M) l
 ·obtain⟨l,hc⟩:=hyes
  obtain⟨K2,e2⟩:=hc.ref
  have hc':IsC (N,F,La,V4 (strOfNums B),M) l:=by rw [ao8 B hB];exact hc
  obtain⟨K3,e3⟩:=bS8 (by rw [bI3];omega) hc'
  rw [ao8 B hB] at e3
  obtain⟨K4,e4⟩:=aN7 [N,F,La,M] [strOfNums B] [N,F,La,M] [strOfNums B] (by simp) (by simp)
  have e5:=ak1 N F La B M N F La B M hB hB
  refine⟨_,bU5 hc,Ev.succ (KA+K2+K3+K4) fun k hk=>?_⟩
  rw [q11.j1]
  unfold q55.f
  rw [if_neg (by decide),e2 k (by omega),Option.bind_some,if_pos rfl,e3 k (by omega),Option.bind_some,if_pos rfl,Option.bind_some,e4 k (by omega),Option.bind_some,if_pos (by simp),if_pos rfl,e5,Option.bind_some,if_pos (by simp),hA k (by omega),Option.bind_some]
 ·obtain⟨K2,e2⟩:=aE4 N F La B M hB hM hml hyes
  obtain⟨K4,e4⟩:=aN7 [] [] [] [] (by simp) (by simp)
  refine⟨_,cL5 N F La B M hB hM hml hyes,Ev.succ (KA+K2+K4) fun k hk=>?_⟩
  rw [q11.j1]
  rw [if_neg (by decide),e2 k (by omega),Option.bind_some,if_neg (by decide),if_pos rfl,e4 k (by omega),Option.bind_some,if_pos (by simp),hA k (by omega),Option.bind_some]
theorem cm3 (N F La:Int) (B:List Int) (M:Int) (hB:Byt B) (hM:I64 M) (hl:B.length≤1300) (d:List Int) (t:List ByteArray) (hd:∀ x ∈ d,I64 x):(∃ K,∀ k,K≤k→q11.j0 k false N F La B M d t=some (true)):=by
 obtain⟨E,⟨KE,hE⟩,⟨KJ,hJ⟩⟩:=co5 N F La B M hB hM hl
 by_cases hg:cC3 d t
 ·obtain⟨n0,n1,n2,n3,s,rfl,rfl,hs,l,hc⟩:=hg
  obtain⟨K1,h1⟩:=bS8 hs hc
  obtain⟨K2,h2⟩:=cj8 hs hc
  have e5:=ak1 n0 n1 n2 (V4 s) n3 n0 n1 n2 (V4 s) n3 (ao5 s) (ao5 s)
  refine Ev.succ (KE+KJ+K1+K2) fun k hk=>?_
  rw [q11.j0]
  rw [if_neg (by decide),hE k (by omega),Option.bind_some,h1 k (by omega),Option.bind_some,h2 k (by omega),Option.bind_some,if_neg (by simp),if_pos rfl,e5,Option.bind_some,decide_eq_true rfl]
  exact hJ k (by omega)
 ·obtain⟨⟨K1,h1⟩,⟨K2,h2⟩⟩:=cF9 d t hd hg
  have e5:=ak1 0 0 0 [] 0 0 0 0 [] 0 (by intro x hx;cases hx) (by intro x hx;cases hx)
  refine Ev.succ (KE+KJ+K1+K2) fun k hk=>?_
  rw [q11.j0]
  rw [if_neg (by decide),hE k (by omega),Option.bind_some,h1 k (by omega),Option.bind_some,h2 k (by omega),Option.bind_some,if_neg (by decide),if_neg (by decide),if_pos rfl,e5,Option.bind_some,decide_eq_true rfl]
  exact hJ k (by omega)
theorem GorillaDatas:∀ (a0_0:Int) (a0_1:Int) (a0_2:Int) (l0_3:List Int) (a0_4:Int) (l1_0:List Int) (l1_1:List ByteArray),(Lit.int .i64 a0_0).wf=true∧(Lit.int .i64 a0_1).wf=true∧(Lit.int .i64 a0_2).wf=true∧((l0_3.length≤maxLen∧∀ y4 ∈ l0_3,(Lit.int .u8 y4).wf=true)∧(Lit.int .i64 a0_4).wf=true)→(l1_0.length≤maxLen∧∀ y4 ∈ l1_0,(Lit.int .i64 y4).wf=true)∧(l1_1.length≤maxLen∧∀ y4 ∈ l1_1,y4.size≤maxLen)→∃ k,q11.f k a0_0 a0_1 a0_2 l0_3 a0_4 l1_0 l1_1=some true:=by
 intro N F La B M d t ⟨_,_,_,⟨hl,hb⟩,hM⟩ ⟨⟨_,hd⟩,_⟩
 have hB:Byt B:=fun x hx=>cY5 (hb x hx)
 have hd:∀ x ∈ d,I64 x:=fun x hx=>cs4 (hd x hx)
 have hM:=cs4 hM
 obtain⟨KA,hA⟩:=aZ7
 have off:q11.j0 (KA+1) true N F La B M d t=some true:=by
  rw [q11.j0]
  rw [if_pos rfl,hA KA (Nat.le_refl _),Option.bind_some]
 by_cases h1:(B.length:Int)≤1300
 case neg =>
  refine⟨KA+1,?_⟩
  unfold q11.f q52.f
  rw [if_neg h1,Option.bind_some,if_neg (by decide),off]
 by_cases h2:M≤10400
 case neg =>
  refine⟨KA+1,?_⟩
  unfold q11.f q52.f
  rw [if_pos h1,decide_eq_false h2,Option.bind_some,if_neg (by decide),off]
 by_cases h3:(d.length:Int)>20
 ·refine⟨KA+1,?_⟩
  unfold q11.f q52.f
  rw [if_pos h1,decide_eq_true h2,Option.bind_some,if_pos rfl,if_pos h3,off]
 by_cases h4:(t.length:Int)>5
 ·refine⟨KA+1,?_⟩
  unfold q11.f q52.f
  rw [if_pos h1,decide_eq_true h2,Option.bind_some,if_pos rfl,if_neg h3,decide_eq_true h4,off]
 obtain⟨K,hK⟩:=cm3 N F La B M hB hM (by omega) d t hd
 refine⟨K,?_⟩
 unfold q11.f q52.f
 rw [if_pos h1,decide_eq_true h2,Option.bind_some,if_pos rfl,if_neg h3,decide_eq_false h4,hK K (Nat.le_refl _)]
end Go.Proofs.Ytmddmbagehjdeaa.Q
end
