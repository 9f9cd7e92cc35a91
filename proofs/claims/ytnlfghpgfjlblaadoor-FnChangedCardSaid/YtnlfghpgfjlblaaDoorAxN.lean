/- The abstract run's ends: from the contracts of a law's function to its walk, from a row's arguments to trees, and from plain contracts to the abstract run's. No conditions. -/
import Derived.Test.YtnlfghpgfjlblaaDoorAxM
import Derived.Test.YtnlfghpgfjlblaaDoorLaw
import Derived.Test.YtnlfghpgfjlblaaDoorMem2
import Derived.Deep.Slices
import Derived.Lib.IndexAny
namespace Go.Proofs.YtnlfghpgfjlblaaDoor.Ax
open Go.RowKit Go.ChangeShapes Go.WideShapes Go.Deep
set_option linter.unusedVariables false
set_option linter.unusedSimpArgs false
def RelTL (w:World) (S:Bool→Nat→Prop) (cs:List AV) (vs:List Value):Prop:=cs.length=vs.length∧∀(j:Nat) (u:AV) (x:Value),cs[j]? =some u→vs[j]? =some x→RelT w S u x
theorem RelTL.one {w:World} {S:Bool→Nat→Prop} {a:AV} {v:Value} (h:RelT w S a v):RelTL w S [a] [v]:=
 ⟨rfl,fun j u x h1 h2=>by cases j with|zero=>simp at h1 h2;subst h1 h2;exact h|succ j=>simp at h1⟩
theorem RelTL.app {w:World} {S:Bool→Nat→Prop} {A B:List AV} {cs:List Value} {o o' a b a' b':Nat} (h1:RelTL w S A ((cs.drop o).take a')) (ha:a'=a) (h2:RelTL w S B ((cs.drop o').take b')) (ho:o'=o+a) (hb:b'=b)
  (hl:o+a+b≤cs.length):RelTL w S (A++B) ((cs.drop o).take (a+b)):=by
 subst ha hb ho
 have l1:=h1.1
 have l2:=h2.1
 simp at l1 l2
 have e1:A.length=a':=by omega
 have e2:B.length=b':=by omega
 refine ⟨by simp;omega,fun j u x hj hx=> ?_⟩
 have hx':cs[o+j]? =some x:=by
  rw [List.getElem?_take] at hx
  split at hx
  ·simpa using hx
  ·cases hx
 by_cases h:j<A.length
 ·rw [List.getElem?_append_left h] at hj
  exact h1.2 j u x hj (by rw [List.getElem?_take,if_pos (by omega)];simpa using hx')
 ·rw [List.getElem?_append_right (by omega)] at hj
  have hjb:=(List.getElem?_eq_some_iff.1 hj).1
  exact h2.2 (j-A.length) u x hj (by rw [List.getElem?_take,if_pos (by omega)];simp;rw [show o+a'+(j-A.length)=o+j by omega];exact hx')
def Zse (P:Program) (t:TypeId) {α:Type} (c:α→List AV) (ok:α→Prop):Prop:=
 ∀ {H:Type} (enc:TypeId×Value→H) (w:World) (base:Nat) (spare:Nat→Bool) (held:Bool) (fuel:Nat) (cs:List Value) (y:DataW H×List MemPlace),
  DataW.trod enc P w base spare held fuel t cs=some y→∃x,RelTL w (fun fr b=>fr=false∧b<w.heap.size) (c x) cs∧ok x
section
variable {P : Program}
theorem Ztq {t:TypeId} {k:IntKind} (ht:P.underlying t=some (.int k)):Zse P t (fun n=>[.val (.int k n)]) (inR k):=by
 intro H enc w base spare held fuel cs y h
 obtain ⟨n,rfl,_,hw⟩:=DataW.trod_int ht h
 simp only [Lit.wf,Bool.and_eq_true,decide_eq_true_eq] at hw
 exact ⟨n,.one (.val _),hw⟩
theorem Zpe {α:Type} [Inhabited α] {t e:TypeId} {c:α→List AV} {ok:α→Prop} {sz:Nat} (ht:P.underlying t=some (.slice e)) (hC:P.cellsOf e=sz) (hpos:0<sz) (hc:∀x,(c x).length=sz∧∀a∈c x,Zll a=true) (he:Zse P e c ok):
  Zse P t (fun xs=>[.sl false sz xs.length (fun i=>c (at_ xs i))]) (fun xs=>∀x∈xs,ok x):=by
 intro H enc w base spare held fuel cs y h
 rcases open_slice ht h with ⟨rfl,_⟩|⟨a,len,cap,m,n,D,Pl,rfl,hb,hl,hm,hmm,hx,hi⟩
 ·exact ⟨[],.one (.sl0 _ _ _ _ _ (Nat.zero_le _)),by simp⟩
 ·have hle:len≤m:=by rw [hmm];split<;>omega
  obtain ⟨xs,hxl,hxs⟩:=Ztt (n:=len) (p:=fun i (x:α)=>(∃cs,RelTL w (fun fr b=>fr=false∧b<w.heap.size) (c x) cs∧∀j u,cs[j]? =some u→w.cell? ((a.add (i*P.cellsOf e)).add j)=some u)∧ok x) (fun i hil=>by
   obtain ⟨cs',hc',ht'⟩:=hi i (by omega)
   obtain ⟨x,hr,hok⟩:=he enc w base spare held _ _ _ ht'
   obtain ⟨_,hcl,hat⟩:=World.cells?_some hc'
   refine ⟨x,⟨cs',hr,fun j u hj=> ?_⟩,hok⟩
   have hjl:j<cs'.length:=(List.getElem?_eq_some_iff.1 hj).1
   rw [hat j (by omega),hj])
  by_cases hz:len=0
  ·subst hz
   have:xs=[]:=List.eq_nil_of_length_eq_zero hxl
   subst this
   exact ⟨[],.one (.sl0 _ _ _ _ _ hm),by simp⟩
  refine ⟨xs,?_,fun x hx'=> ?_⟩
  ·obtain ⟨b,o,s⟩:=a
   have hcell:∀i,i<len→∃cs',RelTL w (fun fr b=>fr=false∧b<w.heap.size) (c (at_ xs i)) cs'∧∀j u,cs'[j]? =some u→w.cell? (((⟨b,o,s⟩:Addr).add (i*P.cellsOf e)).add j)=some u:=fun i hil=>by
    obtain ⟨⟨cs',hr,h2⟩,_⟩:=hxs i xs[i] (List.getElem?_eq_getElem (by omega))
    rw [←Zgr (by omega)] at hr
    exact ⟨cs',hr,h2⟩
   obtain ⟨cs0,hr0,h0⟩:=hcell 0 (by omega)
   have hl0:0<cs0.length:=by rw [←hr0.1,(hc _).1];exact hpos
   have h00:=h0 0 cs0[0] (List.getElem?_eq_getElem hl0)
   have hs:s=none:=by
    have:=h00
    simp [Addr.add,World.cell?] at this
    split at this
    ·split at this
     ·cases this
     ·simp_all
    ·cases this
   subst hs
   have hadd:∀o k:Nat,(⟨b,o,none⟩:Addr).add k=⟨b,o+k,none⟩:=fun o k=>by unfold Addr.add;split<;>simp_all
   simp only [hadd] at h00
   have hlt:b<w.heap.size:=World.block_lt_of_cell? w _ h00
   have hex:∀i j,i<len→j<sz→∃v,w.cell? ⟨b,o+i*sz+j,none⟩=some v∧v.oneCell'=true∧∀u,(c (at_ xs i))[j]? =some u→RelT w (fun fr b=>fr=false∧b<w.heap.size) u v:=fun i j hil hj=>by
    obtain ⟨cs',hr,h2⟩:=hcell i hil
    have hlc:cs'.length=sz:=by rw [←hr.1,(hc _).1]
    have h3:=h2 j cs'[j] (List.getElem?_eq_getElem (by omega))
    simp only [hadd,hC] at h3
    have hu:∀u,(c (at_ xs i))[j]? =some u→RelT w (fun fr b=>fr=false∧b<w.heap.size) u cs'[j]:=fun u hu=>hr.2 j u _ hu (List.getElem?_eq_getElem (by omega))
    refine ⟨_,h3,?_,hu⟩
    have hj':j<(c (at_ xs i)).length:=by rw [(hc _).1];exact hj
    exact Zjt (κ:=fun _=>undef) (.tree _ _ (hu _ (List.getElem?_eq_getElem hj'))) ((hc _).2 _ (List.getElem_mem hj'))
   let g:Nat→Nat→Value:=fun i j=>(w.cell? ⟨b,o+i*sz+j,none⟩).getD undef
   have hg:∀i j,i<len→j<sz→w.cell? ⟨b,o+i*sz+j,none⟩=some (g i j)∧(g i j).oneCell'=true∧∀u,(c (at_ xs i))[j]? =some u→RelT w (fun fr b=>fr=false∧b<w.heap.size) u (g i j):=fun i j hil hj=>by
    obtain ⟨v,h1,h2,h3⟩:=hex i j hil hj
    have:g i j=v:=by simp [g,h1]
    rw [this]
    exact ⟨h1,h2,h3⟩
   refine .one ?_
   show RelT w _ (.sl false sz xs.length (fun i=>c (at_ xs i))) (.slice (some ⟨b,o,none⟩) len cap)
   rw [hxl]
   exact .sl false sz len _ b o cap g ⟨rfl,hlt⟩ hl hm (fun i _=>(hc _).1) (fun i j hi hj=>⟨(hg i j hi hj).1,(hg i j hi hj).2.1⟩)
    (fun i j u hi hu=>(hg i j hi (by have:=(List.getElem?_eq_some_iff.1 hu).1;rw [(hc _).1] at this;exact this)).2.2 u hu)
  ·obtain ⟨i,hil,rfl⟩:=List.getElem_of_mem hx'
   exact (hxs i _ (List.getElem?_eq_getElem hil)).2
end
def base0 (w:World):Base:=⟨w,fun _=>false,fun _=>undef,fun b=>b<w.heap.size,fun _=>False⟩
theorem RelTL.nil {w:World} {S:Bool→Nat→Prop} :RelTL w S [] []:=⟨rfl,fun j u x h=>by simp at h⟩
theorem RelTL.cons {w:World} {S:Bool→Nat→Prop} {a:AV} {v:Value} {al:List AV} {vs:List Value} (h:RelT w S a v) (k:RelTL w S al vs):RelTL w S (a::al) (v::vs):=
 ⟨by simp [k.1],fun j u x h1 h2=>by cases j with|zero=>simp at h1 h2;subst h1 h2;exact h|succ j=>exact k.2 j u x (by simpa using h1) (by simpa using h2)⟩
theorem args_eq {a:Array Value} {l:List Value} (h:a.toList=l):a=l.toArray:=by subst h;simp
theorem walk_of0 {P:Program} {f:FuncId} {args:List AV} {fr:Bool} {b:Bool} (h:Con P f args fr (Bv b)) {w:World} {vs:List Value} (hX:∀w',Kept w (fun _=>False) w'→WX w') (hrl:RelTL w (fun fr b=>fr=false∧b<w.heap.size) args vs):
  Calls P f vs.toArray w fun e w'=>e= .returned (.bool b)∧Below w.heap.size w w':=by
 obtain ⟨hl,hr⟩:=hrl
 have hm:MS (base0 w) (base0 w).κ0 Zdl (base0 w).w0:=⟨Kept.refl _ _,fun i o h=>(by cases h),fun i b h=>absurd rfl h,fun i j b h=>absurd rfl h,fun i h=>rfl,fun w' hk=>hX w' ⟨hk.os,hk.tape,hk.output,hk.size,fun k h1 _=>hk.block k h1 fun hq_=>hq_.elim (fun ⟨i,hi,_⟩=>by cases hi) False.elim⟩⟩
 refine (h (base0 w) vs (fun i=>rfl) hm ⟨hl,fun j u x hu hx=> .tree _ _ ((hr j u x hu hx).keep fun t b hb=>⟨rfl,hb.2,hb.2,fun i h=>absurd rfl h⟩)⟩).mono ?_
 rintro e w' ⟨v,κ',rfl,hm',hv⟩
 have:v= .bool b:=by cases hv with|tree _ _ h=>cases h;rfl
 subst this
 have hk:=hm'.kept
 exact ⟨rfl,hk.os,hk.tape,hk.output,hk.size,fun k hk'=>hk.block k hk' (by rintro (⟨i,h,_⟩|h);cases h;exact h)⟩
theorem Zpf {w:World} {S:Bool→Nat→Prop} {a:AV} {v:Value} (h:RelTL w S [a] [v]):RelT w S a v:=h.2 0 a v rfl rfl
theorem Zjh {P:Program} {f:FuncId} {vals:List Value} {v:Value} {fr:Bool} (h:∀w,WX w→Calls P f vals.toArray w fun e w'=>e= .returned v∧Below w.heap.size w w'):Con P f (vals.map .val) fr (.val v):=by
 intro B vals' hbo hm hr
 have:vals'=vals:=by
  have hl:=hr.1
  simp at hl
  apply List.ext_getElem hl.symm
  intro i h1 h2
  have:=hr.2 i (.val vals[i]) vals'[i] (by simp [List.getElem?_map,List.getElem?_eq_getElem h2]) (List.getElem?_eq_getElem h1)
  generalize vals[i]=x at*
  generalize vals'[i]=y at*
  cases this with|tree _ _ h=>cases h;rfl
 subst this
 refine (h B.w0 (hm.glob _ (Kept.refl _ _))).mono ?_
 rintro e w' ⟨rfl,hb⟩
 exact ⟨v,B.κ0,rfl,hm.world ⟨hb.os,hb.tape,hb.output,hb.size,fun k hk _=>hb.block k hk⟩,.tree _ _ (.val _)⟩
end Go.Proofs.YtnlfghpgfjlblaaDoor.Ax
