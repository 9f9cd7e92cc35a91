/- The abstract run where only some answer is asked for: an answer is found along the run, the same in all worlds. No conditions. -/
import Derived.Test.YtfafngbbaplknaaAxN
namespace Go.Proofs.Ytfafngbbaplknaa.Ax
open Go.RowKit
set_option linter.unusedVariables false
set_option linter.unusedSimpArgs false
theorem Zap {α:Type} {p:α→Prop} {a:α} {l:List α} (h:p a) (k:∀x∈l,p x):∀x∈a::l,p x:=fun x hx=>by
 rcases List.mem_cons.1 hx with e|e
 ·exact e▸h
 ·exact k x e
theorem Zco {α:Type} {p:α→Prop} :∀x∈([]:List α),p x:=fun x hx=>by simp at hx
def XW (P:Program) (lent:List Nat) (nt:Nat) (c:Code) (σ:St) {R:Type} (Q:R→Base→Exit→Act→World→Prop) (Φ:R→Prop):Prop:=∃r,Φ r∧∀B:Base,(∀i,B.bo i=lent.contains i)→AW P B nt c σ (Q r B)
def XE (lent:List Nat) (nt:Nat) (e:Exit) (σ:St) {R:Type} (Q:R→Base→Exit→Act→World→Prop) (Φ:R→Prop):Prop:=∃r,Φ r∧∀B:Base,(∀i,B.bo i=lent.contains i)→AE B nt e σ (Q r B)
section
variable {P : Program} {lent : List Nat} {nt : Nat} {σ : St} {R : Type} {Q : R → Base → Exit → Act → World → Prop} {Φ : R → Prop}
theorem x_reg {id:Nat} {ops:Array Oper} {draw:Bool} (A:List (Nat×Ans)) (kt ko:List Nat) (vs:List AV) (os:List (Option Ob)) (cs:List Prop) (h:Zdz P lent nt draw ops.toList A σ kt ko=some (vs,os,cs))
  (hcs:Conj cs) (hQ:XE lent nt .normal (mkS (Ztg kt vs) (Zth ko os)) Q Φ):XW P lent nt (.region id ops draw) σ Q Φ:=by
 obtain ⟨r,h1,h2⟩:=hQ
 exact ⟨r,h1,fun B hB=>Zqb A kt ko vs os cs h hB hcs (h2 B hB)⟩
theorem Zam {x y:Code} (h:XW P lent nt x σ (fun r B=>Exit.then (y.wp P (Q r B)) (Q r B)) Φ):XW P lent nt (.seq x y) σ Q Φ:=by
 obtain ⟨r,h1,h2⟩:=h;exact ⟨r,h1,fun B hB=>Zai (h2 B hB)⟩
theorem Zac {y:Code} (h:XW P lent nt y σ Q Φ):XE lent nt .normal σ (fun r B=>Exit.then (y.wp P (Q r B)) (Q r B)) Φ:=h
theorem x_r {id:Nat} {ops:Array Oper} {draw:Bool} (A:List (Nat×Ans)) (kt ko:List Nat) (vs:List AV) (os:List (Option Ob)) (cs:List Prop)
  (hcs:Conj cs) (hQ:XE lent nt .normal (mkS (Ztg kt vs) (Zth ko os)) Q Φ) (h:Zdz P lent nt draw ops.toList A σ kt ko=some (vs,os,cs):=by kernel_rfl):XW P lent nt (.region id ops draw) σ Q Φ:=x_reg A kt ko vs os cs h hcs hQ
theorem xR {id:Nat} {ops:Array Oper} {draw:Bool} {y:Code} (A:List (Nat×Ans)) (kt ko:List Nat) (vs:List AV) (os:List (Option Ob)) (cs:List Prop)
  (hcs:Conj cs) (hQ:XW P lent nt y (mkS (Ztg kt vs) (Zth ko os)) Q Φ) (h:Zdz P lent nt draw ops.toList A σ kt ko=some (vs,os,cs):=by kernel_rfl):XW P lent nt (.seq (.region id ops draw) y) σ Q Φ:=Zam (x_reg A kt ko vs os cs h hcs (Zac hQ))
theorem x_q {id:Nat} {ops:Array Oper} {draw:Bool} (A:List (Nat×Ans)) (kt ko:List Nat) (cs:List Prop)
  (hcs:Conj cs) (hQ:XE lent nt .normal (mkS (Ztg kt (rV (Zdz P lent nt draw ops.toList A σ kt ko))) (Zth ko (rO (Zdz P lent nt draw ops.toList A σ kt ko)))) Q Φ) (h:rC (Zdz P lent nt draw ops.toList A σ kt ko)=some cs:=by kernel_rfl):XW P lent nt (.region id ops draw) σ Q Φ:=x_reg A kt ko _ _ cs (r_of h) hcs hQ
theorem xQ {id:Nat} {ops:Array Oper} {draw:Bool} {y:Code} (A:List (Nat×Ans)) (kt ko:List Nat) (cs:List Prop)
  (hcs:Conj cs) (hQ:XW P lent nt y (mkS (Ztg kt (rV (Zdz P lent nt draw ops.toList A σ kt ko))) (Zth ko (rO (Zdz P lent nt draw ops.toList A σ kt ko)))) Q Φ) (h:rC (Zdz P lent nt draw ops.toList A σ kt ko)=some cs:=by kernel_rfl):XW P lent nt (.seq (.region id ops draw) y) σ Q Φ:=Zam (x_reg A kt ko _ _ cs (r_of h) hcs (Zac hQ))
theorem Zbn (h:XE lent nt .normal σ Q Φ):XW P lent nt .skip σ Q Φ:=by
 obtain ⟨r,h1,h2⟩:=h;exact ⟨r,h1,fun B hB=>Zaq (h2 B hB)⟩
theorem Zcw {id:Nat} (h:XE lent nt (.exit id) σ Q Φ):XW P lent nt (.exit id) σ Q Φ:=by
 obtain ⟨r,h1,h2⟩:=h;exact ⟨r,h1,fun B hB=>Zcl (h2 B hB)⟩
theorem Zby (h:XE lent nt .ret σ Q Φ):XW P lent nt .ret σ Q Φ:=by
 obtain ⟨r,h1,h2⟩:=h;exact ⟨r,h1,fun B hB=>Zaz (h2 B hB)⟩
theorem Zbg {id:Nat} {c:Code} (h:XW P lent nt c σ (fun r B=>Exit.inBlock id (Q r B)) Φ):XW P lent nt (.block id c) σ Q Φ:=by
 obtain ⟨r,h1,h2⟩:=h;exact ⟨r,h1,fun B hB=>Zar (h2 B hB)⟩
theorem Zbm (id:Nat) (h:XE lent nt .normal σ Q Φ):XE lent nt .normal σ (fun r B=>Exit.inBlock id (Q r B)) Φ:=h
theorem Zas {id:Nat} {n:R→Base→Act→World→Prop} (h:XE lent nt (.exit id) σ Q Φ):XE lent nt (.exit id) σ (fun r B=>Exit.then (n r B) (Q r B)) Φ:=h
theorem Zat {id:Nat} (h:XE lent nt .normal σ Q Φ):XE lent nt (.exit id) σ (fun r B=>Exit.inBlock id (Q r B)) Φ:=by
 obtain ⟨r,h1,h2⟩:=h;exact ⟨r,h1,fun B hB=>Zav (h2 B hB)⟩
theorem Zgd {id id':Nat} (hne:Nat.beq id id'=false) (h:XE lent nt (.exit id) σ Q Φ):XE lent nt (.exit id) σ (fun r B=>Exit.inBlock id' (Q r B)) Φ:=by
 obtain ⟨r,h1,h2⟩:=h;exact ⟨r,h1,fun B hB=>Zoe hne (h2 B hB)⟩
theorem Zbc {n:R→Base→Act→World→Prop} (h:XE lent nt .ret σ Q Φ):XE lent nt .ret σ (fun r B=>Exit.then (n r B) (Q r B)) Φ:=h
theorem Zkd {id:Nat} (h:XE lent nt .ret σ Q Φ):XE lent nt .ret σ (fun r B=>Exit.inBlock id (Q r B)) Φ:=h
theorem Zgs {c:Operand} {x y:Code} (h:Zle σ c= .val (.bool true)) (hx:XW P lent nt x σ Q Φ):XW P lent nt (.cond c x y) σ Q Φ:=by
 obtain ⟨r,h1,h2⟩:=hx;exact ⟨r,h1,fun B hB=>Zhx h (h2 B hB)⟩
theorem Zca {c:Operand} {x y:Code} (h:Zle σ c= .val (.bool false)) (hy:XW P lent nt y σ Q Φ):XW P lent nt (.cond c x y) σ Q Φ:=by
 obtain ⟨r,h1,h2⟩:=hy;exact ⟨r,h1,fun B hB=>Zds h (h2 B hB)⟩
theorem Zel {c:Operand} {x y:Code} (hx:XW P lent nt x σ Q Φ) (h:Zle σ c= .val (.bool true):=by kernel_rfl):XW P lent nt (.cond c x y) σ Q Φ:=Zgs h hx
theorem Zhn {c:Operand} {x y:Code} (hx:XW P lent nt y σ Q Φ) (h:Zle σ c= .val (.bool false):=by kernel_rfl):XW P lent nt (.cond c x y) σ Q Φ:=Zca h hx
theorem Zde {c:Code} (ρ:List (Nat×Nat)) {T:List (Nat×AV)} {O:List (Nat×Ob)} (hck:ckW lent ρ O=true)
  (hT:Conj (Zof lent σ (Zcm ρ) (O.map fun p=>Zcm ρ p.1) T)) (hO:Conj (Zog lent σ (Zcm ρ) (O.map fun p=>Zcm ρ p.1) O)) (h:XW P lent nt c (mkS T O) Q Φ):XW P lent nt c σ Q Φ:=by
 obtain ⟨r,h1,h2⟩:=h;exact ⟨r,h1,fun B hB=>Zwd hB ρ hck hT hO (h2 B hB)⟩
theorem Zcb {e:Exit} (ρ:List (Nat×Nat)) {T:List (Nat×AV)} {O:List (Nat×Ob)} (hck:ckW lent ρ O=true)
  (hT:Conj (Zof lent σ (Zcm ρ) (O.map fun p=>Zcm ρ p.1) T)) (hO:Conj (Zog lent σ (Zcm ρ) (O.map fun p=>Zcm ρ p.1) O)) (h:XE lent nt e (mkS T O) Q Φ):XE lent nt e σ Q Φ:=by
 obtain ⟨r,h1,h2⟩:=h;exact ⟨r,h1,fun B hB=>ae_weak hB ρ hck hT hO (h2 B hB)⟩
theorem Zwe {T:List (Nat×AV)} {O:List (Nat×Ob)} {c:Code} (t i sz:Nat) (f:Nat→List AV) (hck:(Zke (Zcq T t)&&(Zgt T O i&& !(lent.contains i)))=true)
  (h:XW P lent nt c (mkS ((t,.arr i)::T) ((i,.arr sz 0 f)::O)) Q Φ):XW P lent nt c (mkS T O) Q Φ:=by
 obtain ⟨r,h1,h2⟩:=h;exact ⟨r,h1,fun B hB=>aw_nil hB t i sz f hck (h2 B hB)⟩
theorem x_fam {T:List (Nat×AV)} {O:List (Nat×Ob)} {c:Code} (i sz:Nat) (m:Nat→Nat) (g:Nat→Nat→List AV) (hck:famCk lent T O i=true)
  (h:XW P lent nt c (mkS T ((i,.fam 0 sz m g)::O)) Q Φ):XW P lent nt c (mkS T O) Q Φ:=by
 obtain ⟨r,h1,h2⟩:=h;exact ⟨r,h1,fun B hB=>aw_fam hB i sz m g hck (h2 B hB)⟩
theorem Zjo {T:List (Nat×AV)} {O:List (Nat×Ob)} {e:Exit} (j F:Nat) {N sz n:Nat} {f:Nat→List AV} {m:Nat→Nat} {g:Nat→Nat→List AV}
  (hj:Zab O j=some (.arr sz n f)) (hF:Zab O F=some (.fam N sz m g)) (hck:(!(lent.contains j)&& !(lent.contains F))=true)
  (h:XE lent nt e (mkS (joiT j F N T) ((F,.fam (N+1) sz (Zcn N n m) (Zbi N f g))::Zvw j F N O)) Q Φ):XE lent nt e (mkS T O) Q Φ:=by
 obtain ⟨r,h1,h2⟩:=h;exact ⟨r,h1,fun B hB=>ae_join hB j F hj hF hck (h2 B hB)⟩
def Zqa {X:Type} (nt:Nat) (S:X→St) (Q:R→Base→Exit→Act→World→Prop):R⊕X→Base→Exit→Act→World→Prop
 | .inl r,B=>Exit.then (fun _ _=>False) (Q r B)
 | .inr y,B=>Exit.then (fun a w=>Sim B nt (S y) a w) (fun _ _ _=>False)
def LoopF {X:Type} (Φ:R→Prop) (inv:X→Prop) (m:X→Nat) (x:X):R⊕X→Prop
 | .inl r=>Φ r
 | .inr y=>inv y∧m y<m x
inductive Runs {X:Type} (P:Program) (lent:List Nat) (nt:Nat) (c:Code) (S:X→St) (Q:R→Base→Exit→Act→World→Prop) (m:X→Nat) (r:R):X→Prop
 |out (x:X):(∀B:Base,(∀i,B.bo i=lent.contains i)→AW P B nt c (S x) (Zqa nt S Q (.inl r) B))→Runs P lent nt c S Q m r x
 |again (x y:X):(∀B:Base,(∀i,B.bo i=lent.contains i)→AW P B nt c (S x) (Zqa nt S Q (.inr y) B))→m y<m x→Runs P lent nt c S Q m r y→Runs P lent nt c S Q m r x
theorem Zdn {X:Type} {c:Code} (S:X→St) (inv:X→Prop) (m:X→Nat) (x0:X) (hs:σ=S x0) (h0:inv x0) (round:∀x,inv x→XW P lent nt c (S x) (Zqa nt S Q) (LoopF Φ inv m x)):XW P lent nt (.loop c) σ Q Φ:=by
 have hex:∀n x,m x=n→inv x→∃r,Φ r∧Runs P lent nt c S Q m r x:=by
  intro n
  induction n using Nat.strongRecOn with
  |_ n ih=>
   intro x hx hi
   obtain ⟨r,h1,h2⟩:=round x hi
   cases r with
   |inl r=>exact ⟨r,h1,.out x h2⟩
   |inr y=>
    obtain ⟨h1,h3⟩:=h1
    obtain ⟨r,h4,h5⟩:=ih (m y) (by omega) y rfl h1
    exact ⟨r,h4,.again x y h2 h3 h5⟩
 obtain ⟨r,h1,h2⟩:=hex _ x0 rfl h0
 refine ⟨r,h1,fun B hB=>Zcg (fun n σ'=>∃x,n=m x∧σ'=S x∧Runs P lent nt c S Q m r x) (m x0) ⟨x0,rfl,hs,h2⟩ fun n σ' ⟨x,hn,hσ,hR⟩=> ?_⟩
 subst hn hσ
 cases hR with
 |out _ h=>exact fun a w hsim=>wp_mono (h B hB a w hsim) fun e a w hq=>by cases e<;>first|exact hq|exact (show False from hq).elim
 |again _ y h hlt hR=>exact fun a w hsim=>wp_mono (h B hB a w hsim) fun e a w hq=>by cases e<;>first|exact ⟨m y,S y,hlt,⟨y,rfl,rfl,hR⟩,hq⟩|exact (show False from hq).elim
theorem Zbu {X:Type} {S:X→St} {inv:X→Prop} {m:X→Nat} {x:X} (y:X) (hs:σ=S y) (hi:inv y) (hlt:m y<m x):XE lent nt .normal σ (Zqa nt S Q) (LoopF Φ inv m x):=
 ⟨.inr y,⟨hi,hlt⟩,fun B hB a w h=>by subst hs;exact h⟩
theorem Zaw {X:Type} {S:X→St} {inv:X→Prop} {m:X→Nat} {x:X} {id:Nat} (h:XE lent nt (.exit id) σ Q Φ):XE lent nt (.exit id) σ (Zqa nt S Q) (LoopF Φ inv m x):=by
 obtain ⟨r,h1,h2⟩:=h;exact ⟨.inl r,h1,fun B hB=>h2 B hB⟩
theorem Zrt {X:Type} {S:X→St} {inv:X→Prop} {m:X→Nat} {x:X} (h:XE lent nt .ret σ Q Φ):XE lent nt .ret σ (Zqa nt S Q) (LoopF Φ inv m x):=by
 obtain ⟨r,h1,h2⟩:=h;exact ⟨.inl r,h1,fun B hB=>h2 B hB⟩
theorem Zbd {fn:Func} {fr:Bool} {res:R→AV} {post:R→List (Nat×Ob)} (r0:R) (hΦ:Φ r0) (hpost:Conj (Zfb lent (post r0) σ (post r0))) (r:AV) (hr:resA P fn σ=some r)
  (hle:r=res r0∨le (frzR lent (post r0) σ) true r (res r0)) (hids:fr=true→(res r0).ids=[]) (hfr:fr=true→Zah true (res r0)):
  XE lent nt .ret σ (fun r B=>bodyPost P fn (RetP B fr (res r) (Zab (post r)))) Φ:=⟨r0,hΦ,fun B hB=>Zru hB (post r0) hpost r hr hle hids hfr⟩
theorem Zhy {fn:Func} {fr:Bool} {res:R→AV} {post:R→List (Nat×Ob)} (r0:R) (hΦ:Φ r0) (hpost:Conj (Zfb lent (post r0) σ (post r0))) (r:AV) (hr:resA P fn σ=some r)
  (hle:r=res r0∨le (frzR lent (post r0) σ) true r (res r0)) (hids:fr=true→(res r0).ids=[]) (hfr:fr=true→Zah true (res r0)):
  XE lent nt .normal σ (fun r B=>bodyPost P fn (RetP B fr (res r) (Zab (post r)))) Φ:=⟨r0,hΦ,fun B hB=>Zru hB (post r0) hpost r hr hle hids hfr⟩
theorem Zcp {f:FuncId} {fn:Func} {c:Code} (pre:List (Nat×Ob)) (post:R→List (Nat×Ob)) (hf:P.funcs[f]? =some fn) (hb:fn.body=some c) (hnt:fn.ntmps=nt) {args:List AV} (hle:Nat.ble args.length nt=true)
  (hids:∀a∈args,a.ids=[]∧Zah false a∨Zah false a) {fr:Bool} {res:R→AV}
  (h:XW P (pre.map (·.1)) nt c (mkS (Zwf 0 args) pre) (fun r B=>bodyPost P fn (RetP B fr (res r) (Zab (post r)))) Φ):∃r,Φ r∧Zao P f args (Zab pre) fr (res r) (Zab (post r)):=by
 obtain ⟨r,h1,h2⟩:=h
 exact ⟨r,h1,fn_okL pre (post r) hf hb hnt hle hids h2⟩
end
end Go.Proofs.Ytfafngbbaplknaa.Ax
