/- How data lie in memory: a value of a type is told by a relation between the cells that hold it, the world, and the blocks that its inner slices reach. Plain lemmas; no function of the program. No conditions. -/
import Derived.Test.YtnlfghpgfjlblaaDoorRows
import Derived.WalkKit
import Derived.WalkSpells
import Derived.WalkLawsBesides
import Derived.ProofKit
import Derived.Lib.Hide
import Derived.Deep.Slices
import Derived.Deep.Fields
namespace Go.Proofs.YtnlfghpgfjlblaaDoor
open Go.RowKit Go.ChangeShapes Go.WideShapes Go.Deep
set_option linter.unusedVariables false
structure Rep (α:Type) where
 sz:Nat
 rel:World→(Nat→Prop)→List Value→α→Prop
 len:∀ {w:World} {S:Nat→Prop} {cs:List Value} {x:α},rel w S cs x→cs.length=sz
 keep:∀ {w w':World} {S S':Nat→Prop} {cs:List Value} {x:α},rel w S cs x→(∀b,S b→w'.heap[b]? =w.heap[b]? ∧S' b)→rel w' S' cs x
section
variable {α : Type}
def Cells (R:Rep α) (w:World) (S:Nat→Prop) (A:Option Addr) (xs:List α):Prop:=
 xs≠ []→∃b o,A=some ⟨b,o,none⟩∧S b∧b<w.heap.size∧∀i x,xs[i]? =some x→∃cs,R.rel w S cs x∧∀j u,cs[j]? =some u→w.cell? ⟨b,o+i*R.sz+j,none⟩=some u
def Sl (R:Rep α) (w:World) (S:Nat→Prop) (v:Value) (xs:List α):Prop:=
 ∃A c,v= .slice A xs.length c∧xs.length≤c∧c≤maxLen∧Cells R w S A xs
theorem Cells.keep {R:Rep α} {w w':World} {S S':Nat→Prop} {A:Option Addr} {xs:List α} (h:Cells R w S A xs) (hk:∀b,S b→w'.heap[b]? =w.heap[b]? ∧S' b):Cells R w' S' A xs:=by
 intro hx
 obtain ⟨b,o,hA,hS,hlt,hcell⟩:=h hx
 have hb:=hk b hS
 refine ⟨b,o,hA,hb.2,?_,fun i x hi=> ?_⟩
 ·have h1:w.heap[b]? =some w.heap[b]:=Array.getElem?_eq_getElem hlt
  rw [h1] at hb
  exact (Array.getElem?_eq_some_iff.1 hb.1).1
 ·obtain ⟨cs,hr,hcs⟩:=hcell i x hi
  refine ⟨cs,R.keep hr hk,fun j u hj=> ?_⟩
  rw [←hcs j u hj]
  exact World.cell?_of_block (w:=w) hb.1
theorem Cells.at_ {R:Rep α} {w:World} {S:Nat→Prop} {A:Option Addr} {xs:List α} (h:Cells R w S A xs) {i:Nat} {x:α} (hi:xs[i]? =some x):
  ∃b o cs,A=some ⟨b,o,none⟩∧S b∧b<w.heap.size∧R.rel w S cs x∧∀j u,cs[j]? =some u→w.cell? ⟨b,o+i*R.sz+j,none⟩=some u:=by
 obtain ⟨b,o,hA,hS,hlt,hc⟩:=h (by rintro rfl;simp at hi)
 obtain ⟨cs,hr,hcs⟩:=hc i x hi
 exact ⟨b,o,cs,hA,hS,hlt,hr,hcs⟩
theorem Sl.keep {R:Rep α} {w w':World} {S S':Nat→Prop} {v:Value} {xs:List α} (h:Sl R w S v xs) (hk:∀b,S b→w'.heap[b]? =w.heap[b]? ∧S' b):Sl R w' S' v xs:=by
 obtain ⟨A,c,hv,hc,hm,hne⟩:=h
 exact ⟨A,c,hv,hc,hm,hne.keep hk⟩
theorem Sl.below {R:Rep α} {w w':World} {S:Nat→Prop} {v:Value} {xs:List α} {B:Nat} (h:Sl R w S v xs) (hb:Below B w w') (hS:∀b,S b→b<B):Sl R w' S v xs:=
 h.keep fun b hs=>⟨hb.block b (hS b hs),hs⟩
theorem Sl.mono {R:Rep α} {w:World} {S S':Nat→Prop} {v:Value} {xs:List α} (h:Sl R w S v xs) (hS:∀b,S b→S' b):Sl R w S' v xs:=
 h.keep fun b hs=>⟨rfl,hS b hs⟩
def Old (w:World) (b:Nat):Prop:=b<w.heap.size
theorem Old.up {B:Nat} {w w':World} (hb:Below B w w') (hB:w.heap.size≤B):∀b,Old w b→w'.heap[b]? =w.heap[b]? ∧Old w' b:=
 fun b h=>⟨hb.block b (Nat.lt_of_lt_of_le h hB),Nat.lt_of_lt_of_le h hb.size⟩
theorem Cells.up {R:Rep α} {w w':World} {A:Option Addr} {xs:List α} (h:Cells R w (Old w) A xs) (hb:Below w.heap.size w w'):Cells R w' (Old w') A xs:=h.keep (Old.up hb (Nat.le_refl _))
theorem Sl.up {R:Rep α} {w w':World} {v:Value} {xs:List α} (h:Sl R w (Old w) v xs) (hb:Below w.heap.size w w'):Sl R w' (Old w') v xs:=h.keep (Old.up hb (Nat.le_refl _))
theorem Rep.up (R:Rep α) {w w':World} {cs:List Value} {x:α} (h:R.rel w (Old w) cs x) (hb:Below w.heap.size w w'):R.rel w' (Old w') cs x:=R.keep h (Old.up hb (Nat.le_refl _))
theorem Sl.drew_ {R:Rep α} {w:World} {v:Value} {xs:List α} (h:Sl R w (Old w) v xs):Sl R w.drew (Old w.drew) v xs:=h.keep fun b hb=>⟨rfl,hb⟩
theorem Sl.drewN_ {R:Rep α} {w:World} {v:Value} {xs:List α} (h:Sl R w (Old w) v xs) (n:Nat):Sl R (w.drewN n) (Old (w.drewN n)) v xs:=h.keep fun b hb=>⟨rfl,hb⟩
def At (R:Rep α) (w:World) (S:Nat→Prop) (b o:Nat) (cs:List Value) (x:α):Prop:=b<w.heap.size∧R.rel w S cs x∧∀j u,cs[j]? =some u→w.cell? ⟨b,o+j,none⟩=some u
theorem At.up {R:Rep α} {w w':World} {b o:Nat} {cs:List Value} {x:α} (h:At R w (Old w) b o cs x) (hb:Below w.heap.size w w'):At R w' (Old w') b o cs x:=
 ⟨Nat.lt_of_lt_of_le h.1 hb.size,R.up h.2.1 hb,fun j u hj=>(hb.cell (p:=⟨b,o+j,none⟩) h.1).trans (h.2.2 j u hj)⟩
theorem At.drewN_ {R:Rep α} {w:World} {b o:Nat} {cs:List Value} {x:α} (h:At R w (Old w) b o cs x) (n:Nat):At R (w.drewN n) (Old (w.drewN n)) b o cs x:=
 ⟨h.1,R.keep h.2.1 fun b hb=>⟨rfl,hb⟩,h.2.2⟩
theorem At.box (R:Rep α) {w:World} {cs:List Value} {x:α} (h:R.rel w (Old w) cs x) (e:TypeId):At R (w.alloc (.cells cs.toArray e)) (Old (w.alloc (.cells cs.toArray e))) w.heap.size 0 cs x:=
 ⟨by simp,R.up h ((Below.refl _ _).alloc (Nat.le_refl _) _),fun j u hj=>by
  rw [cell_of_row _ w.heap.size _ cs.toArray e (0,0) (heap_alloc_new w _),Nat.zero_add]
  simpa using hj⟩
theorem Sl.old {R:Rep α} {w:World} {S:Nat→Prop} {v:Value} {xs:List α} (h:Sl R w S v xs) (hS:∀b,S b→b<w.heap.size):Sl R w (Old w) v xs:=h.mono hS
theorem Rep.below (R:Rep α) {w w':World} {S:Nat→Prop} {cs:List Value} {x:α} {B:Nat} (h:R.rel w S cs x) (hb:Below B w w') (hS:∀b,S b→b<B):R.rel w' S cs x:=
 R.keep h fun b hs=>⟨hb.block b (hS b hs),hs⟩
theorem Rep.mono (R:Rep α) {w:World} {S S':Nat→Prop} {cs:List Value} {x:α} (h:R.rel w S cs x) (hS:∀b,S b→S' b):R.rel w S' cs x:=
 R.keep h fun b hs=>⟨rfl,hS b hs⟩
end
def Fresh (B:Nat) (w:World) (b:Nat):Prop:=B≤b∧b<w.heap.size∧∀o,w.frozen? ⟨b,o,none⟩=false
theorem Fresh.below {B B':Nat} {w w':World} (hb:Below B' w w') (hB:w.heap.size≤B'):∀b,Fresh B w b→w'.heap[b]? =w.heap[b]? ∧Fresh B w' b:=
 fun b ⟨h1,h2,h3⟩=>⟨hb.block b (by omega),h1,by have:=hb.size;omega,fun o=>(hb.frozen (p:=⟨b,o,none⟩) (by show b<B';omega)).trans (h3 o)⟩
theorem Fresh.more {B B':Nat} {w:World} (h:B'≤B):∀b,Fresh B w b→Fresh B' w b:=fun b ⟨h1,h2,h3⟩=>⟨by omega,h2,h3⟩
theorem Fresh.lt {B:Nat} {w:World} :∀b,Fresh B w b→b<w.heap.size:=fun _ h=>h.2.1
structure Kp (B:Nat) (w w':World):Prop where
 size:w.heap.size≤w'.heap.size
 block:∀b,B≤b→b<w.heap.size→w'.heap[b]? =w.heap[b]?
theorem Kp.refl (B:Nat) (w:World):Kp B w w:=⟨Nat.le_refl _,fun _ _ _=>rfl⟩
theorem Kp.drewN {B:Nat} {a w:World} (h:Kp B a w) (n:Nat):Kp B a (w.drewN n):=⟨h.size,h.block⟩
theorem Kp.drew {B:Nat} {a w:World} (h:Kp B a w):Kp B a w.drew:=⟨h.size,h.block⟩
theorem Kp.alloc {B:Nat} {a w:World} (h:Kp B a w) (o:Obj):Kp B a (w.alloc o):=
 ⟨Nat.le_trans h.size (by simp),fun b h1 h2=>(Below.heap_alloc w o b (Nat.lt_of_lt_of_le h2 h.size)).trans (h.block b h1 h2)⟩
theorem Kp.setCell {B:Nat} {a w:World} (h:Kp B a w) {p:Addr} (hp:p.block<B) (u:Value):Kp B a (w.setCell p u):=
 ⟨by simpa [World.setCell] using h.size,fun b h1 h2=>(Below.heap_setCell w p u b (by omega)).trans (h.block b h1 h2)⟩
theorem Kp.below {B B':Nat} {a w w':World} (h:Kp B a w) (hb:Below B' w w') (hB:a.heap.size≤B'):Kp B a w':=
 ⟨Nat.le_trans h.size hb.size,fun b h1 h2=>(hb.block b (by omega)).trans (h.block b h1 h2)⟩
theorem Kp.keep {B B0:Nat} {w w':World} (h:Kp B w w') (hB:B0≤B):∀b,Fresh B w b→w'.heap[b]? =w.heap[b]? ∧Fresh B0 w' b:=
 fun b ⟨h1,h2,h3⟩=>⟨h.block b h1 h2,by omega,by have:=h.size;omega,fun o=>(World.frozen?_of_block (w:=w) (h.block b h1 h2)).trans (h3 o)⟩
section
variable {α : Type}
theorem Sl.kp {R:Rep α} {B B0:Nat} {w w':World} {v:Value} {xs:List α} (h:Sl R w (Fresh B w) v xs) (hk:Kp B w w') (hB:B0≤B):Sl R w' (Fresh B0 w') v xs:=h.keep (hk.keep hB)
theorem Rep.kp (R:Rep α) {B B0:Nat} {w w':World} {cs:List Value} {x:α} (h:R.rel w (Fresh B w) cs x) (hk:Kp B w w') (hB:B0≤B):R.rel w' (Fresh B0 w') cs x:=R.keep h (hk.keep hB)
end
section
variable {α : Type}
def Filled (R:Rep α) (w:World) (g:Nat) (e:TypeId) (n:Nat) (xs:List α) (k:Nat):Prop:=
 ∃cur:Array Value,w.heap[g]? =some (.cells cur e (0,0))∧cur.size=n*R.sz∧
  ∀i x,i<k→xs[i]? =some x→∃cs,R.rel w (Fresh (g+1) w) cs x∧∀j u,cs[j]? =some u→cur[i*R.sz+j]? =some u
theorem Filled.lt {R:Rep α} {w:World} {g:Nat} {e:TypeId} {n:Nat} {xs:List α} {k:Nat} (h:Filled R w g e n xs k):g<w.heap.size:=by
 obtain ⟨cur,h1,_⟩:=h
 exact (Array.getElem?_eq_some_iff.1 h1).1
theorem Filled.sl {R:Rep α} {w:World} {g:Nat} {e:TypeId} {xs:List α} (h:Filled R w g e xs.length xs xs.length) (hm:xs.length≤maxLen) {B:Nat} (hB:B≤g):
  Sl R w (Fresh B w) (.slice (some ⟨g,0,none⟩) xs.length xs.length) xs:=by
 have hlt:=h.lt
 obtain ⟨cur,h1,h2,h3⟩:=h
 refine ⟨_,_,rfl,Nat.le_refl _,hm,fun _=>⟨g,0,rfl,⟨hB,hlt,fun o=>by simp [World.frozen?,h1]⟩,hlt,fun i x hi=> ?_⟩⟩
 obtain ⟨cs,hr,hc⟩:=h3 i x (List.getElem?_eq_some_iff.1 hi).1 hi
 refine ⟨cs,R.mono hr (Fresh.more (by omega)),fun j u hj=> ?_⟩
 rw [cell_of_row w g _ cur e (0,0) h1,Nat.zero_add]
 exact hc j u hj
theorem Filled.cell {R:Rep α} {w:World} {g:Nat} {e:TypeId} {n:Nat} {xs:List α} {k:Nat} (h:Filled R w g e n xs k) (hk:k<n) (j:Nat) (hj:j<R.sz):∃u,w.cell? ⟨g,k*R.sz+j,none⟩=some u:=by
 obtain ⟨cur,h1,h2,_⟩:=h
 have:k*R.sz+j<cur.size:=by rw [h2];exact Nat.lt_of_lt_of_le (by omega:k*R.sz+j<k*R.sz+R.sz) (by rw [←Nat.succ_mul];exact Nat.mul_le_mul_right _ hk)
 exact ⟨cur[k*R.sz+j],by rw [cell_of_row w g _ cur e (0,0) h1];exact Array.getElem?_eq_getElem this⟩
theorem Filled.below {R:Rep α} {w w':World} {g:Nat} {e:TypeId} {n:Nat} {xs:List α} {k:Nat} (h:Filled R w g e n xs k) (hb:Below w.heap.size w w'):Filled R w' g e n xs k:=by
 have hlt:=h.lt
 obtain ⟨cur,h1,h2,h3⟩:=h
 refine ⟨cur,(hb.block g hlt).trans h1,h2,fun i x hi hx=> ?_⟩
 obtain ⟨cs,hr,hc⟩:=h3 i x hi hx
 exact ⟨cs,R.keep hr (Fresh.below hb (Nat.le_refl _)),hc⟩
def Zgh (w:World) (g o:Nat):List Value→World
 | []=>w
 |u::us=>Zgh (w.setCell ⟨g,o,none⟩ u) g (o+1) us
theorem Zlm (g:Nat) (us:List Value):∀(w:World) (o k:Nat),k≠g→(Zgh w g o us).heap[k]? =w.heap[k]? :=by
 induction us with
 |nil=>intro w o k _;rfl
 |cons u us ih=>intro w o k hk;exact (ih _ _ k hk).trans (Below.heap_setCell _ _ _ _ hk)
theorem Znb (g:Nat) (us:List Value):∀(w:World) (o:Nat),(Zgh w g o us).heap.size=w.heap.size:=by
 induction us with
 |nil=>intro w o;rfl
 |cons u us ih=>intro w o;exact (ih _ _).trans (by simp [World.setCell])
theorem Zpj (g:Nat) (e:TypeId) (us:List Value):∀(w:World) (o:Nat) (cur:Array Value),w.heap[g]? =some (.cells cur e (0,0))→o+us.length≤cur.size→
  ∃cur':Array Value,(Zgh w g o us).heap[g]? =some (.cells cur' e (0,0))∧cur'.size=cur.size∧(∀i,i<o→cur'[i]? =cur[i]?)∧(∀j u,us[j]? =some u→cur'[o+j]? =some u):=by
 induction us with
 |nil=>intro w o cur h _;exact ⟨cur,h,rfl,fun _ _=>rfl,fun j u hj=>by simp at hj⟩
 |cons u us ih=>
  intro w o cur h hl
  simp only [List.length_cons] at hl
  obtain ⟨cur',h1,h2,h3,h4⟩:=ih (w.setCell ⟨g,o,none⟩ u) (o+1) (cur.setIfInBounds o u) (heap_setCell_same w g o cur e u h) (by simp;omega)
  refine ⟨cur',h1,by simpa using h2,fun i hi=> ?_,fun j v hj=> ?_⟩
  ·rw [h3 i (by omega),Array.getElem?_setIfInBounds,if_neg (by omega)]
  ·cases j with
   |zero=>
    simp at hj
    subst hj
    rw [Nat.add_zero,h3 o (by omega),Array.getElem?_setIfInBounds,if_pos rfl,if_pos (by omega)]
   |succ j=>
    have:=h4 j v (by simpa using hj)
    rw [←this]
    congr 1
    omega
theorem Filled.step {R:Rep α} {w w1:World} {g:Nat} {e:TypeId} {n:Nat} {xs:List α} {k:Nat} (h:Filled R w g e n xs k) (hb:Below w.heap.size w w1) (hk:k<n)
  {x:α} (hx:xs[k]? =some x) {cs:List Value} (hr:R.rel w1 (Fresh w.heap.size w1) cs x):Filled R (Zgh w1 g (k*R.sz) cs) g e n xs (k+1):=by
 have hlt:=h.lt
 obtain ⟨cur,h1,h2,h3⟩:=h.below hb
 have hlen:=R.len hr
 have hfit:k*R.sz+cs.length≤cur.size:=by rw [h2,hlen,←Nat.succ_mul];exact Nat.mul_le_mul_right _ hk
 obtain ⟨cur',r1,r2,r3,r4⟩:=Zpj g e cs w1 (k*R.sz) cur h1 hfit
 have kp:∀b,Fresh (g+1) w1 b→(Zgh w1 g (k*R.sz) cs).heap[b]? =w1.heap[b]? ∧Fresh (g+1) (Zgh w1 g (k*R.sz) cs) b:=by
  intro b ⟨f1,f2,f3⟩
  have hb':=Zlm g cs w1 (k*R.sz) b (by omega)
  exact ⟨hb',f1,by rw [Znb];exact f2,fun o=>(World.frozen?_of_block (w:=w1) hb').trans (f3 o)⟩
 refine ⟨cur',r1,by omega,fun i y hi hy=> ?_⟩
 by_cases hik:i=k
 ·subst hik
  rw [hx] at hy
  cases hy
  exact ⟨cs,R.keep (R.mono hr (Fresh.more (by omega))) kp,r4⟩
 ·obtain ⟨cs',hr',hc'⟩:=h3 i y (by omega) hy
  refine ⟨cs',R.keep hr' kp,fun j u hj=> ?_⟩
  have hj':j<R.sz:=by rw [←R.len hr'];exact (List.getElem?_eq_some_iff.1 hj).1
  have:i*R.sz+R.sz≤k*R.sz:=by rw [←Nat.succ_mul];exact Nat.mul_le_mul_right _ (by omega)
  rw [r3 _ (by omega)]
  exact hc' j u hj
end
def same {α:Type} [DecidableEq α] (x y:α):Bool:=decide (x=y)
theorem Zqt {B:Nat} {a w:World} (h:Below B a w) (n:Nat):Below B a (w.drewN n):=⟨h.os,h.tape,h.output,h.size,h.block⟩
section
variable {H : Type} {enc : TypeId × Value → H} {P : Program} {w : World} {base : Nat} {spare : Nat → Bool} {held : Bool}
theorem Ztt {α:Type} {n:Nat} {p:Nat→α→Prop} (h:∀i,i<n→∃x,p i x):∃xs:List α,xs.length=n∧∀i x,xs[i]? =some x→p i x:=by
 induction n with
 |zero=>exact ⟨[],rfl,fun i x hi=>by simp at hi⟩
 |succ n ih=>
  obtain ⟨xs,hl,hx⟩:=ih (fun i hi=>h i (by omega))
  obtain ⟨x,hp⟩:=h n (by omega)
  refine ⟨xs++[x],by simp [hl],fun i y hi=> ?_⟩
  rcases Nat.lt_trichotomy i n with hlt|rfl|hgt
  ·rw [List.getElem?_append_left (by omega)] at hi
   exact hx i y hi
  ·rw [List.getElem?_append_right (by omega),hl] at hi
   simp at hi
   subst hi
   exact hp
  ·rw [List.getElem?_eq_none (by simp;omega)] at hi
   cases hi
end
section
variable {H : Type} {enc : TypeId × Value → H} {P : Program}
theorem Zih (hl:laidOutB P=true) {W W':World} (hb:Below W.heap.size W W'):
  ∀(ts:List TypeId) (vs:List Value) (ds:List (DataW H)) (ps:List MemPlace),(∀t∈ts,P.readableRec t=true∧t<P.types.size)→(∀x∈ps,x.block<W.heap.size)→
   DataW.TrodAll enc P W 0 (fun _=>true) true ts vs ds ps→DataW.TrodAll enc P W' 0 (fun b=>decide (b<W.heap.size)) true ts vs ds ps
 | [],[],[],_,_,_,h=>h
 |t::ts,v::vs,d::ds,ps,ht,hp,⟨p,q,h1,h2,e⟩=>by
  subst e
  exact ⟨p,q,Below.trod hl (ht t (by simp)).1 (ht t (by simp)).2 h1 hb (fun x hx=>hp x (by simp [hx])),
   Zih hl hb ts vs ds q (fun t' h'=>ht t' (by simp [h'])) (fun x hx=>hp x (by simp [hx])) h2,rfl⟩
end
end Go.Proofs.YtnlfghpgfjlblaaDoor
