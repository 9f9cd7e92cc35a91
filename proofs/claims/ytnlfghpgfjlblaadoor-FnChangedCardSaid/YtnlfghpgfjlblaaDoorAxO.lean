/- The abstract run where only some answer is asked for: an answer is found along the run, the same in all worlds. No conditions. -/
import Derived.Test.YtnlfghpgfjlblaaDoorAxN
namespace Go.Proofs.YtnlfghpgfjlblaaDoor.Ax
open Go.RowKit
set_option linter.unusedVariables false
set_option linter.unusedSimpArgs false
theorem Zca {α:Type} {p:α→Prop} {a:α} {l:List α} (h:p a) (k:∀x∈l,p x):∀x∈a::l,p x:=fun x hx=>by
 rcases List.mem_cons.1 hx with e|e
 ·exact e▸h
 ·exact k x e
theorem Zdu {α:Type} {p:α→Prop} :∀x∈([]:List α),p x:=fun x hx=>by simp at hx
def XW (P:Program) (lent:List Nat) (nt:Nat) (c:Code) (σ:St) {R:Type} (Q:R→Base→Exit→Act→World→Prop) (Φ:R→Prop):Prop:=∃r,Φ r∧∀B:Base,(∀i,B.bo i=lent.contains i)→AW P B nt c σ (Q r B)
def XE (lent:List Nat) (nt:Nat) (e:Exit) (σ:St) {R:Type} (Q:R→Base→Exit→Act→World→Prop) (Φ:R→Prop):Prop:=∃r,Φ r∧∀B:Base,(∀i,B.bo i=lent.contains i)→AE B nt e σ (Q r B)
section
variable {P : Program} {lent : List Nat} {nt : Nat} {σ : St} {R : Type} {Q : R → Base → Exit → Act → World → Prop} {Φ : R → Prop}
theorem x_reg {id:Nat} {ops:Array Oper} {draw:Bool} (A:List (Nat×Ans)) (kt ko:List Nat) (vs:List AV) (os:List (Option Ob)) (cs:List Prop) (h:Zea P lent nt draw ops.toList A σ kt ko=some (vs,os,cs))
  (hcs:Conj cs) (hQ:XE lent nt .normal (mkS (Zsf kt vs) (Zsg ko os)) Q Φ):XW P lent nt (.region id ops draw) σ Q Φ:=by
 obtain ⟨r,h1,h2⟩:=hQ
 exact ⟨r,h1,fun B hB=>Zpi A kt ko vs os cs h hB hcs (h2 B hB)⟩
theorem Zal {x y:Code} (h:XW P lent nt x σ (fun r B=>Exit.then (y.wp P (Q r B)) (Q r B)) Φ):XW P lent nt (.seq x y) σ Q Φ:=by
 obtain ⟨r,h1,h2⟩:=h;exact ⟨r,h1,fun B hB=>Zan (h2 B hB)⟩
theorem Zab {y:Code} (h:XW P lent nt y σ Q Φ):XE lent nt .normal σ (fun r B=>Exit.then (y.wp P (Q r B)) (Q r B)) Φ:=h
theorem x_r {id:Nat} {ops:Array Oper} {draw:Bool} (A:List (Nat×Ans)) (kt ko:List Nat) (vs:List AV) (os:List (Option Ob)) (cs:List Prop)
  (hcs:Conj cs) (hQ:XE lent nt .normal (mkS (Zsf kt vs) (Zsg ko os)) Q Φ) (h:Zea P lent nt draw ops.toList A σ kt ko=some (vs,os,cs):=by kernel_rfl):XW P lent nt (.region id ops draw) σ Q Φ:=x_reg A kt ko vs os cs h hcs hQ
theorem xR {id:Nat} {ops:Array Oper} {draw:Bool} {y:Code} (A:List (Nat×Ans)) (kt ko:List Nat) (vs:List AV) (os:List (Option Ob)) (cs:List Prop)
  (hcs:Conj cs) (hQ:XW P lent nt y (mkS (Zsf kt vs) (Zsg ko os)) Q Φ) (h:Zea P lent nt draw ops.toList A σ kt ko=some (vs,os,cs):=by kernel_rfl):XW P lent nt (.seq (.region id ops draw) y) σ Q Φ:=Zal (x_reg A kt ko vs os cs h hcs (Zab hQ))
theorem x_q {id:Nat} {ops:Array Oper} {draw:Bool} (A:List (Nat×Ans)) (kt ko:List Nat) (cs:List Prop)
  (hcs:Conj cs) (hQ:XE lent nt .normal (mkS (Zsf kt (rV (Zea P lent nt draw ops.toList A σ kt ko))) (Zsg ko (rO (Zea P lent nt draw ops.toList A σ kt ko)))) Q Φ) (h:rC (Zea P lent nt draw ops.toList A σ kt ko)=some cs:=by kernel_rfl):XW P lent nt (.region id ops draw) σ Q Φ:=x_reg A kt ko _ _ cs (r_of h) hcs hQ
theorem xQ {id:Nat} {ops:Array Oper} {draw:Bool} {y:Code} (A:List (Nat×Ans)) (kt ko:List Nat) (cs:List Prop)
  (hcs:Conj cs) (hQ:XW P lent nt y (mkS (Zsf kt (rV (Zea P lent nt draw ops.toList A σ kt ko))) (Zsg ko (rO (Zea P lent nt draw ops.toList A σ kt ko)))) Q Φ) (h:rC (Zea P lent nt draw ops.toList A σ kt ko)=some cs:=by kernel_rfl):XW P lent nt (.seq (.region id ops draw) y) σ Q Φ:=Zal (x_reg A kt ko _ _ cs (r_of h) hcs (Zab hQ))
theorem Zbr (h:XE lent nt .normal σ Q Φ):XW P lent nt .skip σ Q Φ:=by
 obtain ⟨r,h1,h2⟩:=h;exact ⟨r,h1,fun B hB=>Zbu (h2 B hB)⟩
theorem Zdz {id:Nat} (h:XE lent nt (.exit id) σ Q Φ):XW P lent nt (.exit id) σ Q Φ:=by
 obtain ⟨r,h1,h2⟩:=h;exact ⟨r,h1,fun B hB=>Zgg (h2 B hB)⟩
theorem Zcw (h:XE lent nt .ret σ Q Φ):XW P lent nt .ret σ Q Φ:=by
 obtain ⟨r,h1,h2⟩:=h;exact ⟨r,h1,fun B hB=>Zat (h2 B hB)⟩
theorem Zbl {id:Nat} {c:Code} (h:XW P lent nt c σ (fun r B=>Exit.inBlock id (Q r B)) Φ):XW P lent nt (.block id c) σ Q Φ:=by
 obtain ⟨r,h1,h2⟩:=h;exact ⟨r,h1,fun B hB=>Zdi (h2 B hB)⟩
theorem Zbs (id:Nat) (h:XE lent nt .normal σ Q Φ):XE lent nt .normal σ (fun r B=>Exit.inBlock id (Q r B)) Φ:=h
theorem Zba {id:Nat} {n:R→Base→Act→World→Prop} (h:XE lent nt (.exit id) σ Q Φ):XE lent nt (.exit id) σ (fun r B=>Exit.then (n r B) (Q r B)) Φ:=h
theorem Zbc {id:Nat} (h:XE lent nt .normal σ Q Φ):XE lent nt (.exit id) σ (fun r B=>Exit.inBlock id (Q r B)) Φ:=by
 obtain ⟨r,h1,h2⟩:=h;exact ⟨r,h1,fun B hB=>Zcq (h2 B hB)⟩
theorem Zar {n:R→Base→Act→World→Prop} (h:XE lent nt .ret σ Q Φ):XE lent nt .ret σ (fun r B=>Exit.then (n r B) (Q r B)) Φ:=h
theorem Zdv {id:Nat} (h:XE lent nt .ret σ Q Φ):XE lent nt .ret σ (fun r B=>Exit.inBlock id (Q r B)) Φ:=h
theorem Zux {c:Operand} {x y:Code} (h:Zkc σ c= .val (.bool true)) (hx:XW P lent nt x σ Q Φ):XW P lent nt (.cond c x y) σ Q Φ:=by
 obtain ⟨r,h1,h2⟩:=hx;exact ⟨r,h1,fun B hB=>Zhv h (h2 B hB)⟩
theorem Zcu {c:Operand} {x y:Code} (h:Zkc σ c= .val (.bool false)) (hy:XW P lent nt y σ Q Φ):XW P lent nt (.cond c x y) σ Q Φ:=by
 obtain ⟨r,h1,h2⟩:=hy;exact ⟨r,h1,fun B hB=>Zmw h (h2 B hB)⟩
theorem Zfk {c:Operand} {x y:Code} (hx:XW P lent nt x σ Q Φ) (h:Zkc σ c= .val (.bool true):=by kernel_rfl):XW P lent nt (.cond c x y) σ Q Φ:=Zux h hx
theorem Zjn {c:Operand} {x y:Code} (hx:XW P lent nt y σ Q Φ) (h:Zkc σ c= .val (.bool false):=by kernel_rfl):XW P lent nt (.cond c x y) σ Q Φ:=Zcu h hx
theorem Zhq {c:Code} (ρ:List (Nat×Nat)) {T:List (Nat×AV)} {O:List (Nat×Ob)} (hck:ckW lent ρ O=true)
  (hT:Conj (Zmy lent σ (Zcn ρ) (O.map fun p=>Zcn ρ p.1) T)) (hO:Conj (Zmz lent σ (Zcn ρ) (O.map fun p=>Zcn ρ p.1) O)) (h:XW P lent nt c (mkS T O) Q Φ):XW P lent nt c σ Q Φ:=by
 obtain ⟨r,h1,h2⟩:=h;exact ⟨r,h1,fun B hB=>Zvh hB ρ hck hT hO (h2 B hB)⟩
theorem Zcm {e:Exit} (ρ:List (Nat×Nat)) {T:List (Nat×AV)} {O:List (Nat×Ob)} (hck:ckW lent ρ O=true)
  (hT:Conj (Zmy lent σ (Zcn ρ) (O.map fun p=>Zcn ρ p.1) T)) (hO:Conj (Zmz lent σ (Zcn ρ) (O.map fun p=>Zcn ρ p.1) O)) (h:XE lent nt e (mkS T O) Q Φ):XE lent nt e σ Q Φ:=by
 obtain ⟨r,h1,h2⟩:=h;exact ⟨r,h1,fun B hB=>Zvi hB ρ hck hT hO (h2 B hB)⟩
theorem x_nil {T:List (Nat×AV)} {O:List (Nat×Ob)} {c:Code} (t i sz:Nat) (f:Nat→List AV) (hck:(Zly (Zdy T t)&&(Zhr T O i&& !(lent.contains i)))=true)
  (h:XW P lent nt c (mkS ((t,.arr i)::T) ((i,.arr sz 0 f)::O)) Q Φ):XW P lent nt c (mkS T O) Q Φ:=by
 obtain ⟨r,h1,h2⟩:=h;exact ⟨r,h1,fun B hB=>aw_nil hB t i sz f hck (h2 B hB)⟩
theorem Zje {T:List (Nat×AV)} {O:List (Nat×Ob)} {co:Code} (x c i sz:Nat) (f:Nat→List AV) {cs:List AV} (hx:Zac O x=some (.box cs)) (hck:nilCk lent T O cs c i=true)
  (h:XW P lent nt co (mkS T ((x,.box (cs.set c (.arr i)))::(i,.arr sz 0 f)::O)) Q Φ):XW P lent nt co (mkS T O) Q Φ:=by
 obtain ⟨r,h1,h2⟩:=h;exact ⟨r,h1,fun B hB=>aw_nilC hB x c i sz f hx hck (h2 B hB)⟩
theorem x_fam {T:List (Nat×AV)} {O:List (Nat×Ob)} {c:Code} (i sz:Nat) (m:Nat→Nat) (g:Nat→Nat→List AV) (hck:famCk lent T O i=true)
  (h:XW P lent nt c (mkS T ((i,.fam 0 sz m g)::O)) Q Φ):XW P lent nt c (mkS T O) Q Φ:=by
 obtain ⟨r,h1,h2⟩:=h;exact ⟨r,h1,fun B hB=>aw_fam hB i sz m g hck (h2 B hB)⟩
theorem Zna {T:List (Nat×AV)} {O:List (Nat×Ob)} {e:Exit} (j F:Nat) {N sz n:Nat} {f:Nat→List AV} {m:Nat→Nat} {g:Nat→Nat→List AV}
  (hj:Zac O j=some (.arr sz n f)) (hF:Zac O F=some (.fam N sz m g)) (hck:(!(lent.contains j)&& !(lent.contains F))=true)
  (h:XE lent nt e (mkS (joiT j F N T) ((F,.fam (N+1) sz (Zig N n m) (Zff N f g))::Zuv j F N O)) Q Φ):XE lent nt e (mkS T O) Q Φ:=by
 obtain ⟨r,h1,h2⟩:=h;exact ⟨r,h1,fun B hB=>ae_join hB j F hj hF hck (h2 B hB)⟩
def Zts {X:Type} (nt:Nat) (S:X→St) (Q:R→Base→Exit→Act→World→Prop):R⊕X→Base→Exit→Act→World→Prop
 | .inl r,B=>Exit.then (fun _ _=>False) (Q r B)
 | .inr y,B=>Exit.then (fun a w=>Sim B nt (S y) a w) (fun _ _ _=>False)
def LoopF {X:Type} (Φ:R→Prop) (inv:X→Prop) (m:X→Nat) (x:X):R⊕X→Prop
 | .inl r=>Φ r
 | .inr y=>inv y∧m y<m x
inductive Runs {X:Type} (P:Program) (lent:List Nat) (nt:Nat) (c:Code) (S:X→St) (Q:R→Base→Exit→Act→World→Prop) (m:X→Nat) (r:R):X→Prop
 |out (x:X):(∀B:Base,(∀i,B.bo i=lent.contains i)→AW P B nt c (S x) (Zts nt S Q (.inl r) B))→Runs P lent nt c S Q m r x
 |again (x y:X):(∀B:Base,(∀i,B.bo i=lent.contains i)→AW P B nt c (S x) (Zts nt S Q (.inr y) B))→m y<m x→Runs P lent nt c S Q m r y→Runs P lent nt c S Q m r x
theorem Zee {X:Type} {c:Code} (S:X→St) (inv:X→Prop) (m:X→Nat) (x0:X) (hs:σ=S x0) (h0:inv x0) (round:∀x,inv x→XW P lent nt c (S x) (Zts nt S Q) (LoopF Φ inv m x)):XW P lent nt (.loop c) σ Q Φ:=by
 have hex:∀n x,m x=n→inv x→∃r,Φ r∧Runs P lent nt c S Q m r x:=by
  intro n
  induction n using Nat.strongRecOn with
  |_ n ih=>
   intro x hx hi
   obtain ⟨r,h1,h2⟩:=round x hi
   cases r with
   |inl r=>exact ⟨r,h1,.out x h2⟩
   |inr y=>
    obtain ⟨h1,h3⟩:=h1
    obtain ⟨r,h4,h5⟩:=ih (m y) (by omega) y rfl h1
    exact ⟨r,h4,.again x y h2 h3 h5⟩
 obtain ⟨r,h1,h2⟩:=hex _ x0 rfl h0
 refine ⟨r,h1,fun B hB=>Zhw (fun n σ'=>∃x,n=m x∧σ'=S x∧Runs P lent nt c S Q m r x) (m x0) ⟨x0,rfl,hs,h2⟩ fun n σ' ⟨x,hn,hσ,hR⟩=> ?_⟩
 subst hn hσ
 cases hR with
 |out _ h=>exact fun a w hsim=>wp_mono (h B hB a w hsim) fun e a w hq=>by cases e<;>first|exact hq|exact (show False from hq).elim
 |again _ y h hlt hR=>exact fun a w hsim=>wp_mono (h B hB a w hsim) fun e a w hq=>by cases e<;>first|exact ⟨m y,S y,hlt,⟨y,rfl,rfl,hR⟩,hq⟩|exact (show False from hq).elim
theorem Zbt {X:Type} {S:X→St} {inv:X→Prop} {m:X→Nat} {x:X} (y:X) (hs:σ=S y) (hi:inv y) (hlt:m y<m x):XE lent nt .normal σ (Zts nt S Q) (LoopF Φ inv m x):=
 ⟨.inr y,⟨hi,hlt⟩,fun B hB a w h=>by subst hs;exact h⟩
theorem Zbb {X:Type} {S:X→St} {inv:X→Prop} {m:X→Nat} {x:X} {id:Nat} (h:XE lent nt (.exit id) σ Q Φ):XE lent nt (.exit id) σ (Zts nt S Q) (LoopF Φ inv m x):=by
 obtain ⟨r,h1,h2⟩:=h;exact ⟨.inl r,h1,fun B hB=>h2 B hB⟩
theorem Zhx {X:Type} {S:X→St} {inv:X→Prop} {m:X→Nat} {x:X} (h:XE lent nt .ret σ Q Φ):XE lent nt .ret σ (Zts nt S Q) (LoopF Φ inv m x):=by
 obtain ⟨r,h1,h2⟩:=h;exact ⟨.inl r,h1,fun B hB=>h2 B hB⟩
theorem Zbw {fn:Func} {fr:Bool} {res:R→AV} {post:R→List (Nat×Ob)} (r0:R) (hΦ:Φ r0) (hpost:Conj (Zfy lent (post r0) σ (post r0))) (r:AV) (hr:resA P fn σ=some r)
  (hle:r=res r0∨le (frzR lent (post r0) σ) true r (res r0)) (hids:fr=true→(res r0).ids=[]) (hfr:fr=true→Zah true (res r0)):
  XE lent nt .ret σ (fun r B=>bodyPost P fn (RetP B fr (res r) (Zac (post r)))) Φ:=⟨r0,hΦ,fun B hB=>Zvj hB (post r0) hpost r hr hle hids hfr⟩
theorem Zdt {f:FuncId} {fn:Func} {c:Code} (pre:List (Nat×Ob)) (post:R→List (Nat×Ob)) (hf:P.funcs[f]? =some fn) (hb:fn.body=some c) (hnt:fn.ntmps=nt) {args:List AV} (hle:Nat.ble args.length nt=true)
  (hids:∀a∈args,a.ids=[]∧Zah false a∨Zah false a) {fr:Bool} {res:R→AV}
  (h:XW P (pre.map (·.1)) nt c (mkS (Zvk 0 args) pre) (fun r B=>bodyPost P fn (RetP B fr (res r) (Zac (post r)))) Φ):∃r,Φ r∧Zao P f args (Zac pre) fr (res r) (Zac (post r)):=by
 obtain ⟨r,h1,h2⟩:=h
 exact ⟨r,h1,fn_okL pre (post r) hf hb hnt hle hids h2⟩
end
end Go.Proofs.YtnlfghpgfjlblaaDoor.Ax
