/- An abstract run of the model's code over values that are trees: relations between trees and memory. Plain lemmas on the model; no function of the program. No conditions. -/
import Derived.Test.YtnlfghpgfjlblaaDoorAxW
import Derived.WalkKit
import Derived.WalkSpells
import Derived.WalkLawsBesides
import Derived.ProofKit
import Derived.Deep.LoopGhost
import Derived.Lib.AppendStr
namespace Go.Proofs.YtnlfghpgfjlblaaDoor.Ax
open Go.RowKit
theorem om {p:Prop} (h:p:=by omega):p:=h
set_option linter.unusedVariables false
set_option linter.unusedSimpArgs false
inductive AV where
 |any
 |val (v:Value)
 |agg (cs:List AV)
 |tup (cs:List AV)
 |sl (fr:Bool) (sz n:Nat) (f:Nat→List AV)
 |e0
 |ptr (fr:Bool) (cs:List AV)
 |fn (f:FuncId) (caps:List AV)
 |ref (i off:Nat)
 |elt (i sz k j:Nat)
 |arr (i:Nat)
 |nilq (n:Nat)
 |row (i p:Nat)
 |relt (i p sz k j:Nat)
 |mapr (i:Nat)
 |win (i o n:Nat)
inductive RelT (w:World) (S:Bool→Nat→Prop):AV→Value→Prop
 |any (v:Value):RelT w S .any v
 |val (v:Value):RelT w S (.val v) v
 |agg (cs:List AV) (vs:Array Value):cs.length=vs.size→(∀(i:Nat) (a:AV) (v:Value),cs[i]? =some a→vs[i]? =some v→RelT w S a v)→RelT w S (.agg cs) (.agg vs)
 |tup (cs:List AV) (vs:Array Value):cs.length=vs.size→(∀(i:Nat) (a:AV) (v:Value),cs[i]? =some a→vs[i]? =some v→RelT w S a v)→RelT w S (.tup cs) (.tuple vs)
 |fn (f:FuncId) (cs:List AV) (vs:Array Value):cs.length=vs.size→(∀(i:Nat) (a:AV) (v:Value),cs[i]? =some a→vs[i]? =some v→RelT w S a v)→RelT w S (.fn f cs) (.func (.func f) #[] vs)
 |sl (fr:Bool) (sz n:Nat) (f:Nat→List AV) (b o c:Nat) (g:Nat→Nat→Value):S fr b→n≤c→c≤maxLen→(∀i,i<n→(f i).length=sz)→
   (∀i j,i<n→j<sz→w.cell? ⟨b,o+i*sz+j,none⟩=some (g i j)∧(g i j).oneCell'=true)→(∀(i j:Nat) (u:AV),i<n→(f i)[j]? =some u→RelT w S u (g i j))→
   RelT w S (.sl fr sz n f) (.slice (some ⟨b,o,none⟩) n c)
 |sl0 (fr:Bool) (sz:Nat) (f:Nat→List AV) (A:Option Addr) (c:Nat):c≤maxLen→RelT w S (.sl fr sz 0 f) (.slice A 0 c)
 |e0 (A:Option Addr):RelT w S .e0 (.slice A 0 0)
 |ptr (fr:Bool) (cs:List AV) (b o:Nat) (g:Nat→Value):S fr b→(∀j,j<cs.length→w.cell? ⟨b,o+j,none⟩=some (g j))→(∀(j:Nat) (u:AV),cs[j]? =some u→RelT w S u (g j))→
   RelT w S (.ptr fr cs) (.pointer (some ⟨b,o,none⟩))
 |nilq (n:Nat) (b:Bool):(b=true→n=0)→RelT w S (.nilq n) (.bool b)
theorem RelT.keep {w w':World} {S S':Bool→Nat→Prop} {a:AV} {v:Value} (h:RelT w S a v) (hk:∀fr b,S fr b→w'.heap[b]? =w.heap[b]? ∧S' fr b):RelT w' S' a v:=by
 induction h with
 |any v=>exact .any v
 |val v=>exact .val v
 |agg cs vs h1 _ ih=>exact .agg cs vs h1 ih
 |tup cs vs h1 _ ih=>exact .tup cs vs h1 ih
 |fn f cs vs h1 _ ih=>exact .fn f cs vs h1 ih
 |sl fr sz n f b o c g hS h1 h2 h3 h4 _ ih=>
  exact .sl fr sz n f b o c g (hk _ _ hS).2 h1 h2 h3 (fun i j hi hj=>⟨(World.cell?_of_block (w:=w) (hk _ _ hS).1).trans (h4 i j hi hj).1,(h4 i j hi hj).2⟩) ih
 |sl0 fr sz f A c h=>exact .sl0 fr sz f A c h
 |e0 A=>exact .e0 A
 |nilq n b h=>exact .nilq n b h
 |ptr fr cs b o g hS h1 _ ih=>exact .ptr fr cs b o g (hk _ _ hS).2 (fun j hj=>(World.cell?_of_block (w:=w) (hk _ _ hS).1).trans (h1 j hj)) ih
def blk:Value→Option Nat
 | .pointer (some a)=>some a.block
 | .slice (some a) _ c=>if c=0 then none else some a.block
 | .map (some r)=>some r
 |_=>none
def Blk (v:Value) (b:Nat):Prop:=blk v=some b∨∃vs:Array Value,v= .tuple vs∧∃(p:Nat) (r:Value),vs[p]? =some r∧blk r=some b
theorem Zbx (A:Option Addr) (n c b:Nat):Blk (.slice A n c) b↔blk (.slice A n c)=some b:=⟨fun h=>h.elim id fun ⟨_,h,_⟩=>by (cases h),.inl⟩
theorem Ziu (A:Option Addr) (b:Nat):Blk (.pointer A) b↔blk (.pointer A)=some b:=⟨fun h=>h.elim id fun ⟨_,h,_⟩=>by (cases h),.inl⟩
theorem Zvu (vs:Array Value) (b:Nat):Blk (.tuple vs) b↔∃(p:Nat) (r:Value),vs[p]? =some r∧blk r=some b:=⟨fun h=>h.elim (fun h=>by simp [blk] at h) fun ⟨_,h,h'⟩=>by cases h;exact h',fun h=> .inr ⟨_,rfl,h⟩⟩
inductive Rel (κ:Nat→Value) (w:World) (S:Bool→Nat→Prop):AV→Value→Prop
 |tree (a:AV) (v:Value):RelT w S a v→Rel κ w S a v
 |agg (cs:List AV) (vs:Array Value):cs.length=vs.size→(∀(i:Nat) (a:AV) (v:Value),cs[i]? =some a→vs[i]? =some v→Rel κ w S a v)→Rel κ w S (.agg cs) (.agg vs)
 |tup (cs:List AV) (vs:Array Value):cs.length=vs.size→(∀(i:Nat) (a:AV) (v:Value),cs[i]? =some a→vs[i]? =some v→Rel κ w S a v)→Rel κ w S (.tup cs) (.tuple vs)
 |fn (f:FuncId) (cs:List AV) (vs:Array Value):cs.length=vs.size→(∀(i:Nat) (a:AV) (v:Value),cs[i]? =some a→vs[i]? =some v→Rel κ w S a v)→Rel κ w S (.fn f cs) (.func (.func f) #[] vs)
 |ref (i off b:Nat):κ i= .pointer (some ⟨b,0,none⟩)→Rel κ w S (.ref i off) (.pointer (some ⟨b,off,none⟩))
 |elt (i sz k j b n c:Nat):κ i= .slice (some ⟨b,0,none⟩) n c→Rel κ w S (.elt i sz k j) (.pointer (some ⟨b,k*sz+j,none⟩))
 |arr (i:Nat) (A:Option Addr) (n c:Nat):κ i= .slice A n c→Rel κ w S (.arr i) (.slice A n c)
 |row (i p:Nat) (vs:Array Value) (A:Option Addr) (n c:Nat):κ i= .tuple vs→vs[p]? =some (.slice A n c)→Rel κ w S (.row i p) (.slice A n c)
 |relt (i p sz k j b n c:Nat) (vs:Array Value):κ i= .tuple vs→vs[p]? =some (.slice (some ⟨b,0,none⟩) n c)→Rel κ w S (.relt i p sz k j) (.pointer (some ⟨b,k*sz+j,none⟩))
 |mapr (i r:Nat):κ i= .map (some r)→Rel κ w S (.mapr i) (.map (some r))
 |win (i o n b M c:Nat):κ i= .slice (some ⟨b,0,none⟩) M c→o+n≤M→Rel κ w S (.win i o n) (.slice (some ⟨b,o,none⟩) n (c-o))
mutual
def AV.ids:AV→List Nat
 | .agg cs=>AV.idsL cs
 | .tup cs=>AV.idsL cs
 | .fn _ cs=>AV.idsL cs
 | .ref i _=>[i]
 | .elt i _ _ _=>[i]
 | .arr i=>[i]
 | .row i _=>[i]
 | .relt i _ _ _ _=>[i]
 | .mapr i=>[i]
 | .win i _ _=>[i]
 |_=>[]
def AV.idsL:List AV→List Nat
 | []=>[]
 |a::r=>AV.ids a++AV.idsL r
end
theorem AV.idsL_mem {cs:List AV} {i:Nat} {a:AV} (h:cs[i]? =some a) {n:Nat} (hn:n∉AV.idsL cs):n∉AV.ids a:=by
 induction cs generalizing i with
 |nil=>simp at h
 |cons c r ih=>
  simp only [AV.idsL,List.mem_append,not_or] at hn
  cases i with
  |zero=>simp at h;subst h;exact hn.1
  |succ i=>exact ih (by simpa using h) hn.2
mutual
def AV.kill (N:Nat→Bool):AV→AV
 | .agg cs=> .agg (AV.killL N cs)
 | .tup cs=> .tup (AV.killL N cs)
 | .fn f cs=> .fn f (AV.killL N cs)
 | .ref i o=>bif N i then .any else .ref i o
 | .elt i s k j=>bif N i then .any else .elt i s k j
 | .arr i=>bif N i then .any else .arr i
 | .row i p=>bif N i then .any else .row i p
 | .relt i p s k j=>bif N i then .any else .relt i p s k j
 | .mapr i=>bif N i then .any else .mapr i
 | .win i o n=>bif N i then .any else .win i o n
 | .any=> .any
 | .val v=> .val v
 | .sl fr sz n f=> .sl fr sz n f
 | .e0=> .e0
 | .ptr fr cs=> .ptr fr cs
 | .nilq n=> .nilq n
def AV.killL (N:Nat→Bool):List AV→List AV
 | []=>[]
 |a::r=>AV.kill N a::AV.killL N r
end
theorem AV.killL_eq (N:Nat→Bool) (cs:List AV):AV.killL N cs=cs.map (AV.kill N):=by
 induction cs with
 |nil=>rfl
 |cons a r ih=>simp [AV.killL,ih]
theorem AV.killL_at {N:Nat→Bool} {cs:List AV} {i:Nat} {a:AV} (h:(AV.killL N cs)[i]? =some a):∃a',cs[i]? =some a'∧a=AV.kill N a':=by
 rw [AV.killL_eq] at h
 simp only [List.getElem?_map,Option.map_eq_some_iff] at h
 obtain ⟨a',h1,h2⟩:=h
 exact ⟨a',h1,h2.symm⟩
mutual
theorem AV.kill_ids {N:Nat→Bool} {n:Nat} (hn:N n=true):∀a:AV,n∉AV.ids (AV.kill N a)
 | .agg cs=>by simp only [AV.kill,AV.ids];exact AV.killL_ids hn cs
 | .tup cs=>by simp only [AV.kill,AV.ids];exact AV.killL_ids hn cs
 | .fn f cs=>by simp only [AV.kill,AV.ids];exact AV.killL_ids hn cs
 | .ref i o=>by
  simp only [AV.kill]
  cases h:N i<;>simp [AV.ids]
  rintro rfl;simp [hn] at h
 | .elt i s k j=>by
  simp only [AV.kill]
  cases h:N i<;>simp [AV.ids]
  rintro rfl;simp [hn] at h
 | .arr i=>by
  simp only [AV.kill]
  cases h:N i<;>simp [AV.ids]
  rintro rfl;simp [hn] at h
 | .row i p=>by
  simp only [AV.kill]
  cases h:N i<;>simp [AV.ids]
  rintro rfl;simp [hn] at h
 | .relt i p s k j=>by
  simp only [AV.kill]
  cases h:N i<;>simp [AV.ids]
  rintro rfl;simp [hn] at h
 | .mapr i=>by
  simp only [AV.kill]
  cases h:N i<;>simp [AV.ids]
  rintro rfl;simp [hn] at h
 | .win i o q=>by
  simp only [AV.kill]
  cases h:N i<;>simp [AV.ids]
  rintro rfl;simp [hn] at h
 | .any=>by simp [AV.kill,AV.ids]
 | .val v=>by simp [AV.kill,AV.ids]
 | .sl fr sz n f=>by simp [AV.kill,AV.ids]
 | .e0=>by simp [AV.kill,AV.ids]
 | .ptr fr cs=>by simp [AV.kill,AV.ids]
 | .nilq n=>by simp [AV.kill,AV.ids]
theorem AV.killL_ids {N:Nat→Bool} {n:Nat} (hn:N n=true):∀cs:List AV,n∉AV.idsL (AV.killL N cs)
 | []=>by simp [AV.killL,AV.idsL]
 |a::r=>by simp only [AV.killL,AV.idsL,List.mem_append,not_or];exact ⟨AV.kill_ids hn a,AV.killL_ids hn r⟩
end
mutual
theorem AV.kill_sub {N:Nat→Bool} {n:Nat} :∀a:AV,n∈AV.ids (AV.kill N a)→n∈AV.ids a
 | .agg cs,h=>by simp only [AV.kill,AV.ids] at h⊢;exact AV.killL_sub cs h
 | .tup cs,h=>by simp only [AV.kill,AV.ids] at h⊢;exact AV.killL_sub cs h
 | .fn f cs,h=>by simp only [AV.kill,AV.ids] at h⊢;exact AV.killL_sub cs h
 | .ref i o,h=>by simp only [AV.kill] at h;cases hN:N i<;>simp [hN,AV.ids] at h⊢;exact h
 | .elt i s k j,h=>by simp only [AV.kill] at h;cases hN:N i<;>simp [hN,AV.ids] at h⊢;exact h
 | .arr i,h=>by simp only [AV.kill] at h;cases hN:N i<;>simp [hN,AV.ids] at h⊢;exact h
 | .row i p,h=>by simp only [AV.kill] at h;cases hN:N i<;>simp [hN,AV.ids] at h⊢;exact h
 | .relt i p s k j,h=>by simp only [AV.kill] at h;cases hN:N i<;>simp [hN,AV.ids] at h⊢;exact h
 | .mapr i,h=>by simp only [AV.kill] at h;cases hN:N i<;>simp [hN,AV.ids] at h⊢;exact h
 | .win i o q,h=>by simp only [AV.kill] at h;cases hN:N i<;>simp [hN,AV.ids] at h⊢;exact h
 | .any,h=>by simp [AV.kill,AV.ids] at h
 | .val v,h=>by simp [AV.kill,AV.ids] at h
 | .sl fr sz n f,h=>by simp [AV.kill,AV.ids] at h
 | .e0,h=>by simp [AV.kill,AV.ids] at h
 | .ptr fr cs,h=>by simp [AV.kill,AV.ids] at h
 | .nilq n,h=>by simp [AV.kill,AV.ids] at h
theorem AV.killL_sub {N:Nat→Bool} {n:Nat} :∀cs:List AV,n∈AV.idsL (AV.killL N cs)→n∈AV.idsL cs
 | [],h=>by simp [AV.killL,AV.idsL] at h
 |a::r,h=>by
  simp only [AV.killL,AV.idsL,List.mem_append] at h⊢
  exact h.imp (AV.kill_sub a) (AV.killL_sub r)
end
theorem RelT.kill {w:World} {S:Bool→Nat→Prop} {a:AV} {v:Value} (h:RelT w S a v) (N:Nat→Bool):RelT w S (a.kill N) v:=by
 induction h with
 |any v=>exact .any v
 |val v=>exact .val v
 |agg cs vs h1 _ ih=>exact .agg _ vs (by rw [AV.killL_eq,List.length_map];exact h1) fun i a v ha hv=>by obtain ⟨a',h,rfl⟩:=AV.killL_at ha;exact ih i a' v h hv
 |tup cs vs h1 _ ih=>exact .tup _ vs (by rw [AV.killL_eq,List.length_map];exact h1) fun i a v ha hv=>by obtain ⟨a',h,rfl⟩:=AV.killL_at ha;exact ih i a' v h hv
 |fn f cs vs h1 _ ih=>exact .fn f _ vs (by rw [AV.killL_eq,List.length_map];exact h1) fun i a v ha hv=>by obtain ⟨a',h,rfl⟩:=AV.killL_at ha;exact ih i a' v h hv
 |sl fr sz n f b o c g hS h1 h2 h3 h4 h5 ih=>exact .sl fr sz n f b o c g hS h1 h2 h3 h4 h5
 |sl0 fr sz f A c h=>exact .sl0 fr sz f A c h
 |e0 A=>exact .e0 A
 |nilq n b h=>exact .nilq n b h
 |ptr fr cs b o g hS h1 h2 ih=>exact .ptr fr cs b o g hS h1 h2
theorem Rel.kill {κ:Nat→Value} {w:World} {S:Bool→Nat→Prop} {a:AV} {v:Value} (h:Rel κ w S a v) (N:Nat→Bool):Rel κ w S (a.kill N) v:=by
 induction h with
 |tree a v h=>exact .tree _ _ (h.kill N)
 |agg cs vs h1 _ ih=>exact .agg _ vs (by rw [AV.killL_eq,List.length_map];exact h1) fun i a v ha hv=>by obtain ⟨a',h,rfl⟩:=AV.killL_at ha;exact ih i a' v h hv
 |tup cs vs h1 _ ih=>exact .tup _ vs (by rw [AV.killL_eq,List.length_map];exact h1) fun i a v ha hv=>by obtain ⟨a',h,rfl⟩:=AV.killL_at ha;exact ih i a' v h hv
 |fn f cs vs h1 _ ih=>exact .fn f _ vs (by rw [AV.killL_eq,List.length_map];exact h1) fun i a v ha hv=>by obtain ⟨a',h,rfl⟩:=AV.killL_at ha;exact ih i a' v h hv
 |ref i off b h=>simp only [AV.kill];cases N i;exact .ref i off b h;exact .tree _ _ (.any _)
 |elt i sz k j b n c h=>simp only [AV.kill];cases N i;exact .elt i sz k j b n c h;exact .tree _ _ (.any _)
 |arr i A n c h=>simp only [AV.kill];cases N i;exact .arr i A n c h;exact .tree _ _ (.any _)
 |row i p vs A n c h h'=>simp only [AV.kill];cases N i;exact .row i p vs A n c h h';exact .tree _ _ (.any _)
 |relt i p sz k j b n c vs h h'=>simp only [AV.kill];cases N i;exact .relt i p sz k j b n c vs h h';exact .tree _ _ (.any _)
 |mapr i r h=>simp only [AV.kill];cases N i;exact .mapr i r h;exact .tree _ _ (.any _)
 |win i o n b M c h h'=>simp only [AV.kill];cases N i;exact .win i o n b M c h h';exact .tree _ _ (.any _)
theorem Rel.keep {κ κ':Nat→Value} {w w':World} {S S':Bool→Nat→Prop} {a:AV} {v:Value} (h:Rel κ w S a v) (hk:∀fr b,S fr b→w'.heap[b]? =w.heap[b]? ∧S' fr b)
  (hκ:∀i,i∈a.ids→κ' i=κ i):Rel κ' w' S' a v:=by
 induction h with
 |tree a v h=>exact .tree _ _ (h.keep hk)
 |agg cs vs h1 _ ih=>exact .agg _ vs h1 fun i a v ha hv=>ih i a v ha hv fun j hj=>hκ j (Classical.byContradiction fun hn=>AV.idsL_mem ha hn hj)
 |tup cs vs h1 _ ih=>exact .tup _ vs h1 fun i a v ha hv=>ih i a v ha hv fun j hj=>hκ j (Classical.byContradiction fun hn=>AV.idsL_mem ha hn hj)
 |fn f cs vs h1 _ ih=>exact .fn f _ vs h1 fun i a v ha hv=>ih i a v ha hv fun j hj=>hκ j (Classical.byContradiction fun hn=>AV.idsL_mem ha hn hj)
 |ref i off b h=>exact .ref i off b ((hκ i (by simp [AV.ids])).trans h)
 |elt i sz k j b n c h=>exact .elt i sz k j b n c ((hκ i (by simp [AV.ids])).trans h)
 |arr i A n c h=>exact .arr i A n c ((hκ i (by simp [AV.ids])).trans h)
 |row i p vs A n c h h'=>exact .row i p vs A n c ((hκ i (by simp [AV.ids])).trans h) h'
 |relt i p sz k j b n c vs h h'=>exact .relt i p sz k j b n c vs ((hκ i (by simp [AV.ids])).trans h) h'
 |mapr i r h=>exact .mapr i r ((hκ i (by simp [AV.ids])).trans h)
 |win i o n b M c h h'=>exact .win i o n b M c ((hκ i (by simp [AV.ids])).trans h) h'
inductive Ob where
 |box (cs:List AV)
 |arr (sz n:Nat) (f:Nat→List AV)
 |oar (L:List Nat) (sz n:Nat) (f:Nat→List AV)
 |fam (N sz:Nat) (m:Nat→Nat) (g:Nat→Nat→List AV)
 |set (ks:List ByteArray)
 |bld (e:TypeId) (j:Nat)
 |buf (e:TypeId) (r:Bool) (t:ByteArray)
 |sit (s:ByteArray) (p:Nat)
 |byt (t:ByteArray)
def Ob.ids:Ob→List Nat
 | .box cs=>AV.idsL cs
 | .arr _ _ _=>[]
 | .oar L _ _ _=>L
 | .fam _ _ _ _=>[]
 | .set _=>[]
 | .bld _ j=>[j]
 | .buf _ _ _=>[]
 | .sit _ _=>[]
 | .byt _=>[]
def Ob.kill (N:Nat→Bool):Ob→Ob
 | .box cs=> .box (AV.killL N cs)
 | .arr s n f=> .arr s n f
 | .oar L s n f=>bif L.any N then .oar (L.filter fun i=> !N i) s n fun i=>AV.killL N (f i) else .oar L s n f
 | .fam n s m g=> .fam n s m g
 | .set ks=> .set ks
 | .bld e j=>bif N j then .box [.any,.any] else .bld e j
 | .buf e r t=> .buf e r t
 | .sit s p=> .sit s p
 | .byt t=> .byt t
def ArrG (R:AV→Value→Prop) (w:World) (sz n:Nat) (f:Nat→List AV) (v:Value):Prop:=
 (n=0∧∃A,v= .slice A 0 0)∨∃b cur e c,v= .slice (some ⟨b,0,none⟩) n c∧0<c∧w.heap[b]? =some (.cells cur e (0,0))∧n≤c∧c*sz≤cur.size∧c≤maxLen∧
   ∀i,i<n→(f i).length=sz∧∀(j:Nat) (u:AV),(f i)[j]? =some u→∃x,cur[i*sz+j]? =some x∧x.oneCell'=true∧R u x
def ArrRel (w:World) (S:Bool→Nat→Prop) (sz n:Nat) (f:Nat→List AV) (v:Value):Prop:=ArrG (RelT w S) w sz n f v
def OarRel (κ:Nat→Value) (w:World) (S:Bool→Nat→Prop) (sz n:Nat) (f:Nat→List AV) (v:Value):Prop:=ArrG (Rel κ w S) w sz n f v
theorem ArrG.mono {R R':AV→Value→Prop} {w w':World} {sz n:Nat} {f:Nat→List AV} {v:Value} (h:ArrG R w sz n f v) (hb:∀b,blk v=some b→w'.heap[b]? =w.heap[b]?)
  (hR:∀(i j:Nat) (u:AV) (x:Value),i<n→(f i)[j]? =some u→R u x→R' u x):ArrG R' w' sz n f v:=by
 rcases h with h|⟨b,cur,e,c,rfl,h0,h1,h2,h3,h4,h5⟩
 ·exact .inl h
 ·exact .inr ⟨b,cur,e,c,rfl,h0,(hb b (by simp [blk];omega)).trans h1,h2,h3,h4,fun i hi=>⟨(h5 i hi).1,fun j u hj=>by obtain ⟨x,hx,h1,hr⟩:=(h5 i hi).2 j u hj;exact ⟨x,hx,h1,hR i j u x hi hj hr⟩⟩⟩
def Zqe (ks:List ByteArray) (es:Array MapEntry):Prop:=es.toList.map (fun e=>(e.key,e.val))=ks.map fun k=>(Value.string k,Value.bool true)
def BldAt (κ:Nat→Value) (w:World) (e:TypeId) (j:Nat) (v:Value):Prop:=∃b p A n c,v= .pointer (some ⟨b,0,none⟩)∧w.heap[b]? =some (.cells #[p,.slice A n c] e (0,0))∧(p= .pointer none∨p=v)∧κ j= .slice A n c
def BufAt (w:World) (e:TypeId) (r:Bool) (t:ByteArray) (v:Value):Prop:=w.ownsRow 0 e 1 v t.size (Lib.strCells t)∧(r=false→t.size=0→v= .slice none 0 0)∧∀A n,v≠ .slice (some A) n 0
theorem Zer {w:World} {e:TypeId} {r:Bool} {t:ByteArray} {v:Value} (h:BufAt w e r t v):blk v=v.ownBlock:=by
 rcases h.1.2 with ⟨rfl,_⟩|⟨g,cap,cur,rfl,_,_,h1,_⟩
 ·rfl
 ·by_cases h0:cap=0
  ·subst h0;exact absurd rfl (h.2.2 _ _)
  ·simp only [blk,Value.ownBlock];rw [if_neg (by omega)]
theorem BufAt.keep {w w':World} {e:TypeId} {r:Bool} {t:ByteArray} {v:Value} (h:BufAt w e r t v) (hb:∀b,blk v=some b→w'.heap[b]? =w.heap[b]?):BufAt w' e r t v:=by
 rw [Zer h] at hb
 refine ⟨⟨h.1.1,?_⟩,h.2⟩
 rcases h.1.2 with h1|⟨g,cap,cur,rfl,h1,h2,h3⟩
 ·exact .inl h1
 ·exact .inr ⟨g,cap,cur,rfl,h1,(hb g rfl).trans h2,h3⟩
def bAt (s:ByteArray) (i:Nat):Int:=((s.data.toList.getD i 0).toNat:Int)
def BytAt (w:World) (t:ByteArray) (v:Value):Prop:=∃b cur e c,v= .slice (some ⟨b,0,none⟩) t.size c∧0<c∧w.heap[b]? =some (.cells cur e (cur.size,cur.size+1))∧t.size≤c∧c≤cur.size∧c≤maxLen∧∀i,i<t.size→cur[i]? =some (.int .u8 (bAt t i))
theorem BytAt.keep {w w':World} {t:ByteArray} {v:Value} (h:BytAt w t v) (hb:∀b,blk v=some b→w'.heap[b]? =w.heap[b]?):BytAt w' t v:=by
 obtain ⟨b,cur,e,c,rfl,h0,h1,h2⟩:=h
 exact ⟨b,cur,e,c,rfl,h0,(hb b (by simp [blk];omega)).trans h1,h2⟩
def ObRel (κ:Nat→Value) (w:World) (S:Bool→Nat→Prop):Ob→Value→Prop
 | .box cs,v=>∃b cur e,v= .pointer (some ⟨b,0,none⟩)∧w.heap[b]? =some (.cells cur e (0,0))∧cs.length=cur.size∧∀(j:Nat) (u:AV) (x:Value),cs[j]? =some u→cur[j]? =some x→Rel κ w S u x
 | .arr sz n f,v=>ArrRel w S sz n f v
 | .oar L sz n f,v=>(∀i,i<n→∀q,q∈AV.idsL (f i)→q∈L)∧OarRel κ w S sz n f v
 | .fam N sz m g,v=>∃vs:Array Value,v= .tuple vs∧vs.size=N∧(∀(p:Nat) (r:Value),vs[p]? =some r→ArrRel w S sz (m p) (g p) r)∧
   ∀(p q:Nat) (r r':Value) (b:Nat),vs[p]? =some r→vs[q]? =some r'→blk r=some b→blk r'=some b→p=q
 | .set ks,v=>∃r es ck,v= .map (some r)∧w.heap[r]? =some (.map es ck)∧Zqe ks es
 | .bld e j,v=>BldAt κ w e j v
 | .buf e r t,v=>BufAt w e r t v
 | .sit s p,v=>∃r,v= .pointer (some ⟨r,0,none⟩)∧w.heap[r]? =some (.stringIter s p)
 | .byt t,v=>BytAt w t v
theorem ArrRel.keep {w w':World} {S S':Bool→Nat→Prop} {sz n:Nat} {f:Nat→List AV} {v:Value} (h:ArrRel w S sz n f v) (hb:∀b,blk v=some b→w'.heap[b]? =w.heap[b]?)
  (hk:∀fr b,S fr b→w'.heap[b]? =w.heap[b]? ∧S' fr b):ArrRel w' S' sz n f v:=ArrG.mono h hb fun _ _ _ _ _ _ hr=>hr.keep hk
theorem AV.idsL_in {cs:List AV} {j:Nat} {u:AV} (hj:cs[j]? =some u) {i:Nat} (hi:i∈u.ids):i∈AV.idsL cs:=Classical.byContradiction fun hn=>AV.idsL_mem hj hn hi
theorem ObRel.keep {κ κ':Nat→Value} {w w':World} {S S':Bool→Nat→Prop} {o:Ob} {v:Value} (h:ObRel κ w S o v) (hb:∀b,Blk v b→w'.heap[b]? =w.heap[b]?)
  (hk:∀fr b,S fr b→w'.heap[b]? =w.heap[b]? ∧S' fr b) (hκ:∀i,i∈o.ids→κ' i=κ i):ObRel κ' w' S' o v:=by
 cases o with
 |box cs=>
  obtain ⟨b,cur,e,rfl,h1,h2,h3⟩:=h
  exact ⟨b,cur,e,rfl,(hb b (.inl rfl)).trans h1,h2,fun j u x hj hx=>(h3 j u x hj hx).keep hk fun i hi=>hκ i (AV.idsL_in hj hi)⟩
 |arr sz n f=>exact ArrRel.keep h (fun b h'=>hb b (.inl h')) hk
 |oar L sz n f=>
  obtain ⟨hL,h⟩:=h
  refine ⟨hL,?_⟩
  rcases h with h|⟨b,cur,e,c,rfl,h0,h1,h2,h3,h4,h5⟩
  ·exact .inl h
  ·exact .inr ⟨b,cur,e,c,rfl,h0,(hb b (.inl (by simp [blk];omega))).trans h1,h2,h3,h4,fun i hi=>⟨(h5 i hi).1,fun j u hj=>by obtain ⟨x,hx,h1,hr⟩:=(h5 i hi).2 j u hj;exact ⟨x,hx,h1,hr.keep hk fun q hq=>hκ q (hL i hi q (AV.idsL_in hj hq))⟩⟩⟩
 |fam N sz m g=>
  obtain ⟨vs,rfl,h1,h2,h3⟩:=h
  exact ⟨vs,rfl,h1,fun p r hp=>(h2 p r hp).keep (fun b h'=>hb b (.inr ⟨_,rfl,p,r,hp,h'⟩)) hk,h3⟩
 |set ks=>
  obtain ⟨r,es,ck,rfl,h1,h2⟩:=h
  exact ⟨r,es,ck,rfl,(hb r (.inl rfl)).trans h1,h2⟩
 |bld e j=>
  obtain ⟨b,p,A,n,c,rfl,h1,h2,h3⟩:=h
  exact ⟨b,p,A,n,c,rfl,(hb b (.inl rfl)).trans h1,h2,(hκ j (by simp [Ob.ids])).trans h3⟩
 |buf e r t=>exact BufAt.keep h fun b h'=>hb b (.inl h')
 |sit s p=>
  obtain ⟨r,rfl,h1⟩:=h
  exact ⟨r,rfl,(hb r (.inl rfl)).trans h1⟩
 |byt t=>exact BytAt.keep h fun b h'=>hb b (.inl h')
theorem AV.kill_ids_sub {N:Nat→Bool} {n:Nat} {cs:List AV} (h:n∈AV.idsL (AV.killL N cs)):n∈AV.idsL cs∧N n=false:=by
 refine ⟨?_,?_⟩
 ·exact AV.killL_sub cs h
 ·cases hn:N n with
  |false=>rfl
  |true=>exact absurd h (AV.killL_ids hn cs)
theorem ObRel.kill {κ:Nat→Value} {w:World} {S:Bool→Nat→Prop} {o:Ob} {v:Value} (h:ObRel κ w S o v) (N:Nat→Bool):ObRel κ w S (o.kill N) v:=by
 cases o with
 |box cs=>
  obtain ⟨b,cur,e,rfl,h1,h2,h3⟩:=h
  exact ⟨b,cur,e,rfl,h1,by rw [AV.killL_eq,List.length_map];exact h2,fun j u x hj hx=>by obtain ⟨a',h,rfl⟩:=AV.killL_at hj;exact (h3 j a' x h hx).kill N⟩
 |arr sz n f=>exact h
 |oar L sz n f=>
  cases hany:L.any N with
  |false=>simp only [Ob.kill,hany,cond_false];exact h
  |true=>
  simp only [Ob.kill,hany,cond_true]
  obtain ⟨hL,h⟩:=h
  refine ⟨fun i hi q hq=> ?_,?_⟩
  ·have:=AV.kill_ids_sub hq
   exact List.mem_filter.2 ⟨hL i hi q this.1,by simp [this.2]⟩
  ·rcases h with h|⟨b,cur,e,c,rfl,h0,h1,h2,h3,h4,h5⟩
   ·exact .inl h
   ·exact .inr ⟨b,cur,e,c,rfl,h0,h1,h2,h3,h4,fun i hi=>⟨by show (AV.killL N (f i)).length=sz;rw [AV.killL_eq,List.length_map];exact (h5 i hi).1,fun j u hj=>by
     obtain ⟨a',h,rfl⟩:=AV.killL_at hj
     obtain ⟨x,hx,h1,hr⟩:=(h5 i hi).2 j a' h
     exact ⟨x,hx,h1,hr.kill N⟩⟩⟩
 |fam N sz m g=>exact h
 |set ks=>exact h
 |bld e j=>
  simp only [Ob.kill]
  cases N j with
  |false=>exact h
  |true=>
   obtain ⟨b,p,A,n,c,rfl,h1,h2,h3⟩:=h
   refine ⟨b,_,_,rfl,h1,rfl,fun q u x hq hx=> ?_⟩
   have:u= .any:=by
    cases q with
    |zero=>simpa using hq.symm
    |succ q=>cases q with
     |zero=>simpa using hq.symm
     |succ q=>simp at hq
   subst this
   exact .tree _ _ (.any _)
 |buf e r t=>exact h
 |sit s p=>exact h
 |byt t=>exact h
structure Base where
 w0:World
 bo:Nat→Bool
 κ0:Nat→Value
 A:Nat→Prop
 F:Nat→Prop
def Base.M (B:Base) (b:Nat):Prop:=(∃i,B.bo i=true∧Blk (B.κ0 i) b)∨B.F b
def Base.N (B:Base) (b:Nat):Prop:=B.w0.heap.size≤b∨B.F b
structure Kept (w0:World) (M:Nat→Prop) (w:World):Prop where
 os:w.os=w0.os
 tape:w.tape=w0.tape
 output:w.output=w0.output
 size:w0.heap.size≤w.heap.size
 block:∀k,k<w0.heap.size→¬ M k→w.heap[k]? =w0.heap[k]?
def OKb (B:Base) (fr:Bool) (b:Nat):Prop:=(fr=true→B.N b)∧(¬ B.N b→B.A b)
def SS (B:Base) (κ:Nat→Value) (ob:Nat→Option Ob) (w:World) (fr:Bool) (b:Nat):Prop:=
 b<w.heap.size∧OKb B fr b∧∀i,ob i≠none→¬ Blk (κ i) b
structure MS (B:Base) (κ:Nat→Value) (ob:Nat→Option Ob) (w:World):Prop where
 kept:Kept B.w0 B.M w
 obj:∀i o,ob i=some o→ObRel κ w (SS B κ ob w) o (κ i)
 ownb:∀i b,ob i≠none→Blk (κ i) b→b<w.heap.size∧(B.N b∨B.bo i=true)
 inj:∀i j b,ob i≠none→ob j≠none→Blk (κ i) b→Blk (κ j) b→i=j
 lent:∀i,B.bo i=true→κ i=B.κ0 i
 glob:∀w',Kept B.w0 B.M w'→WX w'
structure St where
 tm:Nat→AV
 ob:Nat→Option Ob
structure Sim (B:Base) (nt:Nat) (σ:St) (a:Act) (w:World):Prop where
 defers:a.defers=[]
 size:a.tmps.size=nt
 ex:∃κ,MS B κ σ.ob w∧∀t,Rel κ w (SS B κ σ.ob w) (σ.tm t) (a.tmps.getD t undef)
theorem Kept.heap {w0 w w':World} {M:Nat→Prop} (h:Kept w0 M w) (h1:w'.os=w.os) (h2:w'.tape=w.tape) (h3:w'.output=w.output) (h4:w.heap.size≤w'.heap.size)
  (h5:∀k,k<w0.heap.size→¬ M k→w'.heap[k]? =w.heap[k]?):Kept w0 M w':=
 ⟨h1.trans h.os,h2.trans h.tape,h3.trans h.output,Nat.le_trans h.size h4,fun k hk hm=>(h5 k hk hm).trans (h.block k hk hm)⟩
theorem MS.drop {B:Base} {κ:Nat→Value} {ob ob':Nat→Option Ob} {w:World} (h:MS B κ ob w) (hs:∀i o,ob' i=some o→∃o',ob i=some o'∧(ObRel κ w (SS B κ ob w) o' (κ i)→ObRel κ w (SS B κ ob w) o (κ i))):
  MS B κ ob' w:=by
 have hl:∀i,ob' i≠none→ob i≠none:=fun i hi=>by
  cases ho:ob' i with
  |none=>exact absurd ho hi
  |some o=>obtain ⟨o',h1,_⟩:=hs i o ho;rw [h1];simp
 refine ⟨h.kept,fun i o ho=> ?_,fun i b hi=>h.ownb i b (hl i hi),fun i j b hi hj=>h.inj i j b (hl i hi) (hl j hj),h.lent,h.glob⟩
 obtain ⟨o',h1,h2⟩:=hs i o ho
 exact (h2 (h.obj i o' h1)).keep (fun _ _=>rfl) (fun fr b hb=>⟨rfl,hb.1,hb.2.1,fun j hj=>hb.2.2 j (hl j hj)⟩) fun _ _=>rfl
theorem SS.drop {B:Base} {κ:Nat→Value} {ob ob':Nat→Option Ob} {w:World} (hl:∀i,ob' i≠none→ob i≠none):∀fr b,SS B κ ob w fr b→w.heap[b]? =w.heap[b]? ∧SS B κ ob' w fr b:=
 fun fr b hb=>⟨rfl,hb.1,hb.2.1,fun j hj=>hb.2.2 j (hl j hj)⟩
theorem MS.world {B:Base} {κ:Nat→Value} {ob:Nat→Option Ob} {w w':World} (h:MS B κ ob w) (hk:Kept w (fun _=>False) w'):MS B κ ob w':=by
 have hS:∀fr b,SS B κ ob w fr b→w'.heap[b]? =w.heap[b]? ∧SS B κ ob w' fr b:=fun fr b hb=>⟨hk.block b hb.1 id,Nat.lt_of_lt_of_le hb.1 hk.size,hb.2⟩
 refine ⟨h.kept.heap hk.os hk.tape hk.output hk.size fun k hk' _=>hk.block k (Nat.lt_of_lt_of_le hk' h.kept.size) id,fun i o ho=> ?_,fun i b hi hb=> ?_,h.inj,h.lent,h.glob⟩
 ·exact (h.obj i o ho).keep (fun b hb=>hk.block b (h.ownb i b (by rw [ho];simp) hb).1 id) hS fun _ _=>rfl
 ·exact ⟨Nat.lt_of_lt_of_le (h.ownb i b hi hb).1 hk.size,(h.ownb i b hi hb).2⟩
theorem SS.world {B:Base} {κ:Nat→Value} {ob:Nat→Option Ob} {w w':World} (hk:Kept w (fun _=>False) w'):∀fr b,SS B κ ob w fr b→w'.heap[b]? =w.heap[b]? ∧SS B κ ob w' fr b:=
 fun fr b hb=>⟨hk.block b hb.1 id,Nat.lt_of_lt_of_le hb.1 hk.size,hb.2⟩
theorem Kept.drew (w:World):Kept w (fun _=>False) w.drew:=⟨rfl,rfl,rfl,Nat.le_refl _,fun _ _ _=>rfl⟩
theorem Kept.refl (w:World) (M:Nat→Prop):Kept w M w:=⟨rfl,rfl,rfl,Nat.le_refl _,fun _ _ _=>rfl⟩
end Go.Proofs.YtnlfghpgfjlblaaDoor.Ax
