/- The abstract run's cells: loading, storing and filling. Plain lemmas on the model. No conditions. -/
import Derived.Test.YtnlfghpgfjlblaaDoorAxA
namespace Go.Proofs.YtnlfghpgfjlblaaDoor.Ax
open Go.RowKit
set_option linter.unusedVariables false
set_option linter.unusedSimpArgs false
section
variable {κ : Nat → Value} {w : World} {S : Bool → Nat → Prop}
def RelL (κ:Nat→Value) (w:World) (S:Bool→Nat→Prop) (cs:List AV) (vs:List Value):Prop:=cs.length=vs.length∧∀(j:Nat) (u:AV) (x:Value),cs[j]? =some u→vs[j]? =some x→Rel κ w S u x
theorem RelL.at_ {cs:List AV} {vs:List Value} (h:RelL κ w S cs vs) {j:Nat} {u:AV} (hj:cs[j]? =some u):∃x,vs[j]? =some x∧Rel κ w S u x:=by
 have hl:=(List.getElem?_eq_some_iff.1 hj).1
 rw [h.1] at hl
 exact ⟨vs[j],List.getElem?_eq_getElem hl,h.2 j u _ hj (List.getElem?_eq_getElem hl)⟩
theorem RelL.take {cs:List AV} {vs:List Value} (h:RelL κ w S cs vs) (n:Nat):RelL κ w S (cs.take n) (vs.take n):=by
 refine ⟨by simp [h.1],fun j u x hj hx=> ?_⟩
 rw [List.getElem?_take] at hj hx
 split at hj
 ·rename_i hlt;rw [if_pos hlt] at hx;exact h.2 j u x hj hx
 ·cases hj
theorem RelL.drop {cs:List AV} {vs:List Value} (h:RelL κ w S cs vs) (n:Nat):RelL κ w S (cs.drop n) (vs.drop n):=
 ⟨by simp [h.1],fun j u x hj hx=>h.2 (n+j) u x (by simpa using hj) (by simpa using hx)⟩
theorem RelL.append {cs ds:List AV} {vs us:List Value} (h:RelL κ w S cs vs) (h':RelL κ w S ds us):RelL κ w S (cs++ds) (vs++us):=by
 refine ⟨by simp [h.1,h'.1],fun j u x hj hx=> ?_⟩
 by_cases hlt:j<cs.length
 ·rw [List.getElem?_append_left hlt] at hj
  rw [List.getElem?_append_left (by rw [←h.1];exact hlt)] at hx
  exact h.2 j u x hj hx
 ·rw [List.getElem?_append_right (by omega)] at hj
  rw [List.getElem?_append_right (by rw [←h.1];omega),←h.1] at hx
  exact h'.2 _ u x hj hx
theorem RelL.cons {a:AV} {v:Value} {cs:List AV} {vs:List Value} (h:Rel κ w S a v) (h':RelL κ w S cs vs):RelL κ w S (a::cs) (v::vs):=
 ⟨by simp [h'.1],fun j u x hj hx=>by
  cases j with
  |zero=>simp at hj hx;subst hj hx;exact h
  |succ j=>exact h'.2 j u x (by simpa using hj) (by simpa using hx)⟩
theorem RelL.nil:RelL κ w S [] []:=⟨rfl,fun j u x hj=>by simp at hj⟩
theorem RelL.vals (vs:List Value):RelL κ w S (vs.map .val) vs:=⟨by simp,fun j u x hj hx=>by
 simp only [List.getElem?_map,hx,Option.map_some,Option.some.injEq] at hj;subst hj;exact .tree _ _ (.val _)⟩
theorem RelL.agg {cs:List AV} {vs:List Value} (h:RelL κ w S cs vs):Rel κ w S (.agg cs) (.agg vs.toArray):= .agg _ _ (by simpa using h.1) fun i a v ha hv=>h.2 i a v ha (by simpa using hv)
theorem RelL.tup {cs:List AV} {vs:List Value} (h:RelL κ w S cs vs):Rel κ w S (.tup cs) (.tuple vs.toArray):= .tup _ _ (by simpa using h.1) fun i a v ha hv=>h.2 i a v ha (by simpa using hv)
theorem Rel.agg_of {cs:List AV} {v:Value} (h:Rel κ w S (.agg cs) v):∃vs:Array Value,v= .agg vs∧RelL κ w S cs vs.toList:=by
 cases h with
 |tree _ _ h=>cases h with|agg _ vs h1 h2=>exact ⟨vs,rfl,by simpa using h1,fun j u x hj hx=> .tree _ _ (h2 j u x hj (by simpa using hx))⟩
 |agg _ vs h1 h2=>exact ⟨vs,rfl,by simpa using h1,fun j u x hj hx=>h2 j u x hj (by simpa using hx)⟩
theorem Rel.tup_of {cs:List AV} {v:Value} (h:Rel κ w S (.tup cs) v):∃vs:Array Value,v= .tuple vs∧RelL κ w S cs vs.toList:=by
 cases h with
 |tree _ _ h=>cases h with|tup _ vs h1 h2=>exact ⟨vs,rfl,by simpa using h1,fun j u x hj hx=> .tree _ _ (h2 j u x hj (by simpa using hx))⟩
 |tup _ vs h1 h2=>exact ⟨vs,rfl,by simpa using h1,fun j u x hj hx=>h2 j u x hj (by simpa using hx)⟩
theorem Rel.val_of {x v:Value} (h:Rel κ w S (.val x) v):v=x:=by
 cases h with
 |tree _ _ h=>cases h;rfl
theorem Rel.of_val (x:Value):Rel κ w S (.val x) x:= .tree _ _ (.val _)
def Zdx:AV→Option (List AV)
 | .agg cs=>some cs
 | .any=>none
 | .tup _=>none
 | .val (.agg _)=>none
 | .val (.tuple _)=>none
 |a=>some [a]
theorem Zel {a:AV} {v:Value} (h:Rel κ w S a v) {cs:List AV} (hc:Zdx a=some cs):RelL κ w S cs v.cells.toList:=by
 cases a with
 |agg cs'=>obtain ⟨vs,rfl,h2⟩:=h.agg_of;simp only [Zdx,Option.some.injEq] at hc;subst hc;exact h2
 |any=>simp [Zdx] at hc
 |tup _=>simp [Zdx] at hc
 |val x=>
  obtain rfl:=h.val_of
  cases v<;>simp only [Zdx,Option.some.injEq,reduceCtorEq] at hc<;>subst hc<;>exact .cons h .nil
 |sl fr sz n f=>
  simp only [Zdx,Option.some.injEq] at hc;subst hc
  have h':=h
  cases h with|tree _ _ h0=>cases h0<;>exact .cons h' .nil
 |e0=>
  simp only [Zdx,Option.some.injEq] at hc;subst hc
  have h':=h
  cases h with|tree _ _ h0=>cases h0<;>exact .cons h' .nil
 |ptr fr cs'=>
  simp only [Zdx,Option.some.injEq] at hc;subst hc
  have h':=h
  cases h with|tree _ _ h0=>cases h0<;>exact .cons h' .nil
 |fn f caps=>
  simp only [Zdx,Option.some.injEq] at hc;subst hc
  have h':=h
  cases h with
  |tree _ _ h0=>cases h0<;>exact .cons h' .nil
  |fn=>exact .cons h' .nil
 |ref i off=>
  simp only [Zdx,Option.some.injEq] at hc;subst hc
  have h':=h
  cases h with
  |tree _ _ h0=>cases h0
  |ref=>exact .cons h' .nil
 |elt i sz k j=>
  simp only [Zdx,Option.some.injEq] at hc;subst hc
  have h':=h
  cases h with
  |tree _ _ h0=>cases h0
  |elt=>exact .cons h' .nil
 |nilq n=>
  simp only [Zdx,Option.some.injEq] at hc;subst hc
  have h':=h
  cases h with|tree _ _ h0=>cases h0<;>exact .cons h' .nil
 |arr i=>
  simp only [Zdx,Option.some.injEq] at hc;subst hc
  have h':=h
  cases h with
  |tree _ _ h0=>cases h0
  |arr=>exact .cons h' .nil
 |row i p=>
  simp only [Zdx,Option.some.injEq] at hc;subst hc
  have h':=h
  cases h with
  |tree _ _ h0=>cases h0
  |row=>exact .cons h' .nil
 |relt i p sz k j=>
  simp only [Zdx,Option.some.injEq] at hc;subst hc
  have h':=h
  cases h with
  |tree _ _ h0=>cases h0
  |relt=>exact .cons h' .nil
 |mapr i=>
  simp only [Zdx,Option.some.injEq] at hc;subst hc
  have h':=h
  cases h with
  |tree _ _ h0=>cases h0
  |mapr=>exact .cons h' .nil
 |win i o n=>
  simp only [Zdx,Option.some.injEq] at hc;subst hc
  have h':=h
  cases h with
  |tree _ _ h0=>cases h0
  |win=>exact .cons h' .nil
def Zll:AV→Bool
 | .any=>false
 | .agg _=>false
 | .tup _=>false
 | .val (.agg _)=>false
 | .val (.tuple _)=>false
 |_=>true
theorem Zjt {a:AV} {v:Value} (h:Rel κ w S a v) (ho:Zll a=true):v.oneCell'=true:=by
 cases h with
 |tree _ _ h=>cases h with
  |val v=>cases v<;>simp [Zll] at ho<;>rfl
  |any=>simp [Zll] at ho
  |agg=>simp [Zll] at ho
  |tup=>simp [Zll] at ho
  |fn=>rfl
  |sl=>rfl
  |sl0=>rfl
  |e0=>rfl
  |ptr=>rfl
  |nilq=>rfl
 |agg=>simp [Zll] at ho
 |tup=>simp [Zll] at ho
 |fn=>rfl
 |ref=>rfl
 |elt=>rfl
 |arr=>rfl
 |row=>rfl
 |relt=>rfl
 |mapr=>rfl
 |win=>rfl
end
def Zug {α:Type} (cur:Array α) (off:Nat):List α→Array α
 | []=>cur
 |u::us=>Zug (cur.setIfInBounds off u) (off+1) us
theorem Zkr {α:Type} (us:List α):∀(cur:Array α) (off:Nat),(Zug cur off us).size=cur.size:=by
 induction us with
 |nil=>intro cur off;rfl
 |cons u us ih=>intro cur off;simp [Zug,ih]
theorem Zjx {α:Type} (us:List α):∀(cur:Array α) (off:Nat),off+us.length≤cur.size→∀i,(Zug cur off us)[i]? =if off≤i∧i<off+us.length then us[i-off]? else cur[i]? :=by
 induction us with
 |nil=>intro cur off _ i;simp [Zug];intro h1 h2;omega
 |cons u us ih=>
  intro cur off h i
  simp only [List.length_cons] at h
  rw [Zug,ih _ _ (by simp;omega)]
  by_cases e:i=off
  ·subst e
   rw [if_neg (by omega),if_pos (by simp)]
   simp [Array.getElem?_setIfInBounds,show i<cur.size by omega]
  ·by_cases h1:off+1≤i∧i<off+1+us.length
   ·rw [if_pos h1,if_pos (by simp;omega)]
    have:i-off=(i-(off+1))+1:=by omega
    rw [this,List.getElem?_cons_succ]
   ·rw [if_neg h1,if_neg (by simp;omega),Array.getElem?_setIfInBounds,if_neg (by omega)]
def spl {α:Type} (cs:List α) (off:Nat) (us:List α):List α:=cs.take off++us++cs.drop (off+us.length)
theorem Ziy {α:Type} {cs us:List α} {off:Nat} (h:off+us.length≤cs.length):(spl cs off us).length=cs.length:=by simp [spl];omega
theorem Zwx {α:Type} {cs us:List α} {off:Nat} (h:off+us.length≤cs.length) (i:Nat):(spl cs off us)[i]? =if off≤i∧i<off+us.length then us[i-off]? else cs[i]? :=by
 have hl:(cs.take off).length=off:=by simp;omega
 unfold spl
 by_cases h1:i<off
 ·rw [if_neg (by omega),List.append_assoc,List.getElem?_append_left (by omega),List.getElem?_take,if_pos h1]
 ·rw [List.append_assoc,List.getElem?_append_right (by omega),hl]
  by_cases h2:i<off+us.length
  ·rw [if_pos (by omega),List.getElem?_append_left (by omega)]
  ·rw [if_neg (by omega),List.getElem?_append_right (by omega),List.getElem?_drop]
   congr 1
   omega
theorem Ztc {κ:Nat→Value} {w:World} {S:Bool→Nat→Prop} {cs us:List AV} {cur:Array Value} {vs:List Value} {off:Nat} (h:RelL κ w S cs cur.toList) (h':RelL κ w S us vs) (hl:off+us.length≤cs.length):
  RelL κ w S (spl cs off us) (Zug cur off vs).toList:=by
 have hn:=h.1
 have hn':=h'.1
 simp only [Array.length_toList] at hn
 refine ⟨(Ziy hl).trans (hn.trans (by rw [Array.length_toList,Zkr])),fun j u x hj hx=> ?_⟩
 rw [Zwx hl] at hj
 rw [Array.getElem?_toList,Zjx _ _ _ (by omega)] at hx
 by_cases hc:off≤j∧j<off+us.length
 ·rw [if_pos hc] at hj;rw [if_pos (by omega)] at hx;exact h'.2 _ u x hj hx
 ·rw [if_neg hc] at hj;rw [if_neg (by omega)] at hx;exact h.2 j u x hj (by simpa using hx)
def Zjk (P:Program) (t:TypeId):Option Bool:=
 match P.underlying t with
 |some (.struct _)=>some true
 |some (.array _ _)=>some true
 |some _=>some false
 |none=>none
def Zds (P:Program) (t:TypeId):Option Nat:=(P.info? t).map (·.size)
def Zlp (P:Program) (t:TypeId) (cs:List AV):Option AV:=
 match Zjk P t,Zds P t with
 |some true,some n=>if n≤cs.length then some (.agg (cs.take n)) else none
 |some false,some _=>cs.head?
 |_,_=>none
theorem Zga {P:Program} {t:TypeId} {b:Bool} (h:Zjk P t=some b) (w:World):(isAgg t).run P w= .ok b w:=by
 unfold Zjk at h
 cases hu:P.underlying t with
 |none=>simp [hu] at h
 |some d=>cases d<;>simp [hu] at h<;>subst h<;>simp [isAgg,run_underlying hu]
theorem Zaz {P:Program} {t:TypeId} {n:Nat} (h:Zds P t=some n) (w:World):(sizeOf t).run P w= .ok n w:=by
 unfold Zds at h
 cases hi:P.info? t with
 |none=>simp [hi] at h
 |some i=>simp [hi] at h;subst h;simp [sizeOf,typeInfo,hi]
theorem Zkh {P:Program} {κ:Nat→Value} {w:World} {S:Bool→Nat→Prop} {t:TypeId} {cs:List AV} {r:AV} (h:Zlp P t cs=some r) (b o:Nat) (g:Nat→Value)
  (hc:∀j,j<cs.length→w.cell? ⟨b,o+j,none⟩=some (g j)) (hr:∀(j:Nat) (u:AV),cs[j]? =some u→Rel κ w S u (g j)):∃v,(loadVar t ⟨b,o,none⟩).run P w= .ok v w∧Rel κ w S r v:=by
 have hadd:∀k:Nat,(⟨b,o,none⟩:Addr).add k=⟨b,o+k,none⟩:=fun k=>by unfold Addr.add;split<;>simp_all
 unfold Zlp at h
 split at h
 ·rename_i n ha hs
  split at h
  ·rename_i hle
   cases h
   refine ⟨.agg ((List.range n).map g).toArray,?_,?_⟩
   ·have:=run_loadCells (P:=P) w ⟨b,o,none⟩ n g (fun j hj=>by rw [hadd];exact hc j (by omega))
    simp [loadVar,Zga ha,Zaz hs,this]
   ·refine RelL.agg ⟨by simp;omega,fun j u x hj hx=> ?_⟩
    rw [List.getElem?_take] at hj
    split at hj
    ·rename_i hlt
     simp [hlt] at hx
     subst hx
     exact hr j u hj
    ·cases hj
  ·cases h
 ·rename_i n ha hs
  cases cs with
  |nil=>simp at h
  |cons c cs=>
   simp at h
   subst h
   refine ⟨g 0,?_,hr 0 c rfl⟩
   have:=hc 0 (by simp)
   simp only [Nat.add_zero] at this
   simp [loadVar,Zga ha,this]
 ·cases h
theorem Zhs {P:Program} {b:Nat} {e:TypeId} (us:List Value):∀(w:World) (o i:Nat) (cur:Array Value),w.heap[b]? =some (.cells cur e (0,0))→(∀u∈us,u.oneCell'=true)→o+i+us.length≤cur.size→
  ∃w',(storeCells ⟨b,o,none⟩ us i).run P w= .ok () w'∧w'.heap[b]? =some (.cells (Zug cur (o+i) us) e (0,0))∧w'.heap.size=w.heap.size∧(∀k,k≠b→w'.heap[k]? =w.heap[k]?)∧w'.os=w.os∧w'.tape=w.tape∧w'.output=w.output:=by
 induction us with
 |nil=>intro w o i cur h _ _;exact ⟨w,rfl,h,rfl,fun _ _=>rfl,rfl,rfl,rfl⟩
 |cons u us ih=>
  intro w o i cur h hu hl
  have hadd:(⟨b,o,none⟩:Addr).add i=⟨b,o+i,none⟩:=by unfold Addr.add;split<;>simp_all
  simp only [List.length_cons] at hl
  have hcell:w.cell? ⟨b,o+i,none⟩=some cur[o+i]:=by
   rw [cell_of_row w b _ cur e (0,0) h];exact Array.getElem?_eq_getElem (by omega)
  have hfz:w.frozen? ⟨b,o+i,none⟩=false:=by simp [World.frozen?,h]
  obtain ⟨w',h1,h2,h3,h4,h5,h6,h7⟩:=ih (w.setCell ⟨b,o+i,none⟩ u) o (i+1) (cur.setIfInBounds (o+i) u) (heap_setCell_same w b (o+i) cur e u h) (fun x hx=>hu x (by simp [hx])) (by simp;omega)
  refine ⟨w',?_,?_,by simpa using h3,fun k hk=>(h4 k hk).trans (Below.heap_setCell _ _ _ _ hk),h5,h6,h7⟩
  ·simp only [storeCells,Sem.run_bind,hadd]
   rw [run_store P w _ u .plain (hu u (by simp)),hcell]
   simp [hfz,h1]
  ·rw [h2,Zug];rfl
theorem Zjj {P:Program} {t:TypeId} {n:Nat} (hs:Zds P t=some n) {v:Value} {w:World} {b o:Nat} {e:TypeId} {cur:Array Value} (h:w.heap[b]? =some (.cells cur e (0,0)))
  (hn:v.cells.toList.length=n) (hu:∀u∈v.cells.toList,u.oneCell'=true) (hl:o+n≤cur.size):
  ∃w',(storeVar t ⟨b,o,none⟩ v).run P w= .ok () w'∧w'.heap[b]? =some (.cells (Zug cur o v.cells.toList) e (0,0))∧w'.heap.size=w.heap.size∧(∀k,k≠b→w'.heap[k]? =w.heap[k]?)∧w'.os=w.os∧w'.tape=w.tape∧w'.output=w.output:=by
 obtain ⟨w',h1,h2⟩:=Zhs (P:=P) v.cells.toList w o 0 cur h hu (by omega)
 refine ⟨w',?_,by simpa using h2⟩
 simp at hn
 simp [storeVar,Zaz hs,hn]
 simpa using h1
theorem Zob {P:Program} {t:TypeId} (hs:Zds P t=some 1) {vx u:Value} (hu1:vx.cells=#[u]) (hu:u.oneCell'=true) {w:World} {b o:Nat} {e:TypeId} {cur:Array Value} {z:Nat×Nat} (h:w.heap[b]? =some (.cells cur e z)) (hz:¬ (z.1≤o∧o<z.2)) (hl:o<cur.size):
  ∃w',(storeVar t ⟨b,o,none⟩ vx).run P w= .ok () w'∧w'.heap[b]? =some (.cells (cur.setIfInBounds o u) e z)∧w'.heap.size=w.heap.size∧(∀k,k≠b→w'.heap[k]? =w.heap[k]?)∧w'.os=w.os∧w'.tape=w.tape∧w'.output=w.output:=by
 have hcell:w.cell? ⟨b,o,none⟩=some cur[o]:=by rw [cell_of_row w b _ cur e z h];exact Array.getElem?_eq_getElem hl
 have hfz:w.frozen? ⟨b,o,none⟩=false:=by simp only [World.frozen?,h];simp;omega
 have hadd:(⟨b,o,none⟩:Addr).add 0=⟨b,o,none⟩:=by unfold Addr.add;split<;>simp_all
 have hrow:w.setCell ⟨b,o,none⟩ u=w.setRow b (cur.setIfInBounds o u):=setCell_eq_setRow w b o cur e z u h
 refine ⟨w.setCell ⟨b,o,none⟩ u,?_,by rw [hrow];exact setRow_heap w b cur _ e z h,by simp [World.setCell],fun k hk=>Below.heap_setCell _ _ _ _ hk,rfl,rfl,rfl⟩
 simp only [storeVar,Sem.run_bind,Zaz hs,hu1]
 simp [storeCells,hadd]
 rw [run_store P w _ u .plain hu,hcell]
 simp [hfz]
def Zlw (place:Nat→Option (Nat×Nat)):List AV→List (Nat×AV)→Option (List AV)
 |cs,[]=>some cs
 |cs,(i,a)::rest=>
  match place i,Zdx a with
  |some (off,size),some us=>bif Nat.beq us.length size&&Nat.ble (off+size) cs.length then Zlw place (spl cs off us) rest else none
  |_,_=>none
theorem zip_fold {α:Type} (off:Nat) (us:List α):∀(cur:Array α) (k:Nat),(us.zipIdx k).foldl (fun cs (cj:α×Nat)=>cs.setIfInBounds (off+cj.2) cj.1) cur=Zug cur (off+k) us:=by
 induction us with
 |nil=>intro cur k;rfl
 |cons u us ih=>intro cur k;simp only [List.zipIdx_cons,List.foldl_cons,Zug];rw [ih];rfl
theorem Zny {κ:Nat→Value} {w:World} {S:Bool→Nat→Prop} {place:Nat→Option (Nat×Nat)} {ρ:Operand→Value} {ev:Operand→AV} (hev:∀x,Rel κ w S (ev x) (ρ x)) (parts:List (Nat×Operand)):
  ∀(cs ds:List AV) (cur:Array Value),Zlw place cs (parts.map fun p=>(p.1,ev p.2))=some ds→RelL κ w S cs cur.toList→∃cur',Instr.fill place cur (parts.map fun p=>(p.1,ρ p.2))=some cur'∧RelL κ w S ds cur'.toList:=by
 induction parts with
 |nil=>intro cs ds cur h hr;simp only [List.map_nil,Zlw,Option.some.injEq] at h;subst h;exact ⟨cur,rfl,hr⟩
 |cons p parts ih=>
  intro cs ds cur h hr
  obtain ⟨i,x⟩:=p
  simp only [List.map_cons,Zlw] at h
  split at h
  ·rename_i off size us hp hc
   cases hb:(Nat.beq us.length size&&Nat.ble (off+size) cs.length) with
   |false=>simp [hb] at h
   |true=>
    simp only [hb,cond_true] at h
    simp only [Bool.and_eq_true,Nat.beq_eq,Nat.ble_eq] at hb
    obtain ⟨e1,e2⟩:=hb
    have hrel:=Zel (hev x) hc
    have hn:=hr.1
    have hm:=hrel.1
    simp only [Array.length_toList] at hn hm
    obtain ⟨cur',h1,h2⟩:=ih _ _ (Zug cur off (ρ x).cells.toList) h (Ztc hr hrel (by omega))
    refine ⟨cur',?_,h2⟩
    simp only [List.map_cons,Instr.fill,hp]
    rw [if_neg (by simp;omega)]
    rw [←Array.foldl_toList,Array.toList_zipIdx,zip_fold off _ cur 0]
    exact h1
  ·cases h
end Go.Proofs.YtnlfghpgfjlblaaDoor.Ax
