/- The abstract run: contracts of functions, and one operation. Plain lemmas on the model. No conditions. -/
import Derived.Test.YtmnboneljjijmaaAxH
namespace Go.Proofs.Ytmnboneljjijmaa.Ax
open Go.RowKit
set_option linter.unusedVariables false
set_option linter.unusedSimpArgs false

/-- Where a result's parts lie. -/
def SR (fr : Bool) (B : Base) (κ : Nat → Value) (ob : Nat → Option Ob) (w : World) : Bool → Nat → Prop := fun t b => SS B κ ob w (fr || t) b
/-- The contract of a function: from arguments that hold these trees, and objects that it is lent, it returns; 'fr': all that the result reaches is new. -/
def CallOK (P : Program) (f : FuncId) (args : List AV) (obs : Nat → Option Ob) (fr : Bool) (res : AV) (obs' : Nat → Option Ob) : Prop :=
  ∀ (B : Base) (vals : List Value), (∀ i, B.bo i = (obs i).isSome) → MS B B.κ0 obs B.w0 → RelL B.κ0 B.w0 (fun _ b => b < B.w0.heap.size ∧ B.A b ∧ ∀ i, obs i ≠ none → blk (B.κ0 i) ≠ some b) args vals →
    Calls P f vals.toArray B.w0 fun e w' => ∃ v κ', e = .returned v ∧ MS B κ' obs' w' ∧ Rel κ' w' (SR fr B κ' obs' w') res v
def noOb : Nat → Option Ob := fun _ => none
/-- A function that is lent nothing. -/
def Con (P : Program) (f : FuncId) (args : List AV) (fr : Bool) (res : AV) : Prop := CallOK P f args noOb fr res noOb

def Conj : List Prop → Prop
  | [] => True
  | p :: r => p ∧ Conj r
theorem Conj.all : ∀ {l : List Prop}, Conj l → ∀ p ∈ l, p
  | [], _, p, hp => by simp at hp
  | q :: l, h, p, hp => by
    rcases List.mem_cons.1 hp with e | hp
    · subst e; exact h.1
    · exact Conj.all h.2 p hp
theorem con_use {P : Program} {f : FuncId} {args : List AV} {args' : List (Bool × AV)} {fr : Bool} {res : AV} (hcon : Con P f (args'.map (·.2)) fr res) (hids : AV.idsL (args'.map (·.2)) = []) (hres : res.ids = []) {B : Base} {κ : Nat → Value} {ob obr : Nat → Option Ob} {w : World} (hm : MS B κ ob w)
    (hsub : ∀ i o, obr i = some o → ob i = some o) {vals : List Value} (hr : RelL κ w (SS B κ ob w) args vals) (hle : ∀ p ∈ leArgs (bif fr then obr else noOb) true args args', p) (news : List Nat) :
    Calls P f vals.toArray w fun e w' => ∃ v, e = .returned v ∧ Good B κ ob w news { r := res } v w' := by
  have hA : ∃ A : Nat → Prop, (∀ t b, SS B κ ob w t b → A b) ∧ (fr = true → ∀ b, A b) ∧ (fr = false → ∀ b, b < w.heap.size → A b → SS B κ ob w false b) := by
    cases fr
    · exact ⟨fun b => SS B κ ob w false b, fun t b h => h.fr (fun e => by cases e), fun h => (by cases h), fun _ b _ h => h⟩
    · exact ⟨fun _ => True, fun _ _ _ => trivial, fun _ _ => trivial, fun h => by cases h⟩
  obtain ⟨A, hA1, hA2, hA3⟩ := hA
  have hB := hcon ⟨w, fun _ => false, κ, A⟩ vals (fun _ => rfl) ⟨Kept.refl _ _, fun i o h => (by cases h), fun i b h => absurd rfl h, fun i j b h => absurd rfl h, fun i h => (by cases h)⟩
    (leArgs_sound hm (obr := bif fr then obr else noOb) (fun i o h => by cases fr <;> simp [noOb] at h; exact hsub i o h) (fun t b hb => ⟨hb.1, hA1 t b hb, fun i h => absurd rfl h⟩) (fun i o b hi hb => by
      cases fr
      · simp [noOb] at hi
      · have hob := hsub i o (by simpa using hi)
        have := (hm.ownb i b (by rw [hob]; simp) hb).1
        exact ⟨⟨this, hA2 rfl b, fun i h => absurd rfl h⟩, fun _ => ⟨this, hA2 rfl b, fun i h => absurd rfl h⟩⟩) _ _ _ hr hle)
  refine hB.mono fun e w' ⟨v, κ', he, hm', hv⟩ => ⟨v, he, ?_⟩
  have hk : Kept w (fun _ => False) w' := ⟨hm'.kept.os, hm'.kept.tape, hm'.kept.output, hm'.kept.size, fun k hk _ => hm'.kept.block k hk fun ⟨i, hi, _⟩ => by cases hi⟩
  refine ⟨κ, fun _ _ => rfl, hm.world hk, .tree _ _ ((hv.toT hres).keep fun t b hb => ⟨rfl, ?_⟩), SS.world hk⟩
  have hsz := hm.kept.size
  show SS B κ ob w' t b
  by_cases hlt : b < w.heap.size
  · have hfr : fr = false := by
      cases fr with
      | false => rfl
      | true =>
        have : w.heap.size ≤ b := hb.2.1.1 rfl
        omega
    have ht : t = false := by
      cases t with
      | false => rfl
      | true =>
        have : w.heap.size ≤ b := hb.2.1.1 (by simp)
        omega
    subst ht
    have := hA3 hfr b hlt (hb.2.1.2 hlt)
    exact ⟨hb.1, this.2⟩
  · exact ⟨hb.1, ⟨fun _ => by omega, fun h => by omega⟩, fun i hi hbk => hlt (hm.ownb i b hi hbk).1⟩

/-! ### converting -/
def convOut (P : Program) (src dst : TypeId) (an : Ans) (x : AV) : Option Out :=
  match P.underlying src, P.underlying dst, x with
  | some _, some (.int k), .val (.int _ n) => match an with
    | .n => some { r := .val (.int k n), c := some (inR k n) }
    | .wrap => some { r := .val (.int k (k.wrap n)) }
    | _ => none
  | some _, some .string, .val (.string s) => some { r := .val (.string s) }
  | _, _, _ => none
theorem run_convOut {P : Program} {src dst : TypeId} {an : Ans} {x : AV} {out : Out} (h : convOut P src dst an x = some out) (hc : out.cond) {κ : Nat → Value} {S : Bool → Nat → Prop} {w : World} {vx : Value} (hx : Rel κ w S x vx) :
    out.wr = [] ∧ ∃ v, Rel κ w S out.r v ∧ (convert src dst vx).run P w = .ok v w := by
  unfold convOut at h
  split at h
  · rename_i d k k0 n h1 h2
    obtain rfl := hx.val_of
    split at h <;> simp only [Option.some.injEq, reduceCtorEq] at h <;> subst h
    · exact ⟨rfl, _, Rel.of_val _, by simp [convert, run_underlying h1, run_underlying h2, Conv.intToInt, wrap_in hc]⟩
    · exact ⟨rfl, _, Rel.of_val _, by simp [convert, run_underlying h1, run_underlying h2, Conv.intToInt]⟩
  · rename_i d s h1 h2
    obtain rfl := hx.val_of
    cases h
    exact ⟨rfl, _, Rel.of_val _, by simp [convert, run_underlying h1, run_underlying h2]⟩
  · cases h
/-! ### the least and the greatest -/
def foldM (mx : Bool) (k : IntKind) : Int → List AV → Option Int
  | n, [] => some n
  | n, .val (.int _ m) :: r => foldM mx k (bif mx then max n m else min n m) r
  | _, _ => none
def minmaxOut (mx : Bool) : List AV → Option Out
  | .val (.int k n) :: r => match foldM mx k n r with
    | some m => some { r := .val (.int k m) }
    | none => none
  | _ => none
theorem run_foldM {P : Program} {w : World} {κ : Nat → Value} {S : Bool → Nat → Prop} (mx : Bool) (k : IntKind) : ∀ (r : List AV) (vs : List Value) (n m : Int), RelL κ w S r vs → foldM mx k n r = some m →
    (vs.foldlM (bif mx then Builtin.max2 else Builtin.min2) (.int k n)).run P w = .ok (.int k m) w
  | [], vs, n, m, h, hf => by
    have := h.1
    cases vs with
    | nil => simp only [foldM, Option.some.injEq] at hf; subst hf; rfl
    | cons _ _ => simp at this
  | a :: r, vs, n, m, h, hf => by
    cases vs with
    | nil => have := h.1; simp at this
    | cons v vs =>
      unfold foldM at hf
      split at hf
      · rename_i e; cases e
      · rename_i n _ k' q r' e
        cases e
        have hv := (h.2 0 _ v rfl rfl).val_of
        subst hv
        have ih := run_foldM (P := P) mx k r vs _ m ⟨by have := h.1; simpa using this, fun j u x hj hx => h.2 (j + 1) u x (by simpa using hj) (by simpa using hx)⟩ hf
        simp only [List.foldlM_cons, Sem.run_bind]
        cases mx
        · have hm2 : ∀ n : Int, (Builtin.min2 (.int k n) (.int k' q)).run P w = .ok (.int k (min n q)) w := fun n => by
            simp only [Builtin.min2, Sem.run_pure]
            congr 2
            omega
          simp only [cond_false] at ih ⊢
          rw [hm2]
          exact ih
        · have hm2 : ∀ n : Int, (Builtin.max2 (.int k n) (.int k' q)).run P w = .ok (.int k (max n q)) w := fun n => by
            simp only [Builtin.max2, Sem.run_pure]
            congr 2
            omega
          simp only [cond_true] at ih ⊢
          rw [hm2]
          exact ih
      · cases hf
theorem run_minmaxOut {P : Program} {w : World} {κ : Nat → Value} {S : Bool → Nat → Prop} {mx : Bool} {xs : List AV} {vs : Array Value} {out : Out} (h : minmaxOut mx xs = some out) (hr : RelL κ w S xs vs.toList) (ts : Array TypeId) (ty : TypeId) :
    out.wr = [] ∧ ∃ v, Rel κ w S out.r v ∧ ((bif mx then Builtin.max_ else Builtin.min_) ts ty vs).run P w = .ok v w := by
  unfold minmaxOut at h
  split at h
  · rename_i k n r
    split at h
    · rename_i m hf
      cases h
      refine ⟨rfl, _, Rel.of_val _, ?_⟩
      obtain ⟨l⟩ := vs
      cases l with
      | nil => have := hr.1; simp at this
      | cons v vs =>
        have hv := (hr.2 0 _ v rfl rfl).val_of
        subst hv
        have := run_foldM (P := P) mx k r vs n m ⟨by have := hr.1; simpa using this, fun j u x hj hx => hr.2 (j + 1) u x (by simpa using hj) (by simpa using hx)⟩ hf
        cases mx
        · exact this
        · exact this
    · cases h
  · cases h
/-! ### one operation -/
def nilOut (x : AV) : Option Out :=
  match x with
  | .ptr _ _ => some { r := x }
  | .ref _ _ => some { r := x }
  | .elt _ _ _ _ => some { r := x }
  | _ => none
def extractOut (x : AV) (i : Nat) : Option Out :=
  match x with
  | .tup cs => match cs[i]? with
    | some a => some { r := a }
    | none => none
  | _ => none
def pickOut (c a b : AV) : Option Out :=
  match c with
  | .val (.bool true) => some { r := a }
  | .val (.bool false) => some { r := b }
  | _ => none
def callable (P : Program) (f : FuncId) : Bool := match P.funcs[f]? with
  | some fn => fn.body.isSome && !(fn.name == "runtime.NumGoroutine")
  | none => false
def callOut (P : Program) (an : Ans) (ob : Nat → Option Ob) (f : AV) (args : List AV) : Option Out :=
  match an, f with
  | .call args' fr res, .fn id caps => bif callable P id && (AV.idsL (args'.map (·.2))).isEmpty && (AV.ids res).isEmpty then
      some { r := res, c := some (Conj (Con P id (args'.map (·.2)) fr res :: leArgs (bif fr then ob else noOb) true (args ++ caps) args')) } else none
  | _, _ => none
def builtinOut (P : Program) (b : Builtin) (ts : Array TypeId) (an : Ans) (ob : Nat → Option Ob) (args : List AV) : Option Out :=
  match b, ts.toList, args with
  | .len, [t], [x] => lenOut P t ob x
  | .append, [t, t2], [s, x] => appendOut P t t2 an ob s x
  | .max, _, xs => minmaxOut true xs
  | .min, _, xs => minmaxOut false xs
  | _, _, _ => none
def opRun (P : Program) (pu : Bool) (o : Op) (an : Ans) (ev : Operand → AV) (ob : Nat → Option Ob) : Option Out :=
  match o with
  | .move x => some { r := ev x }
  | .assign x => some { r := ev x }
  | .pick c a b => pickOut (ev c) (ev a) (ev b)
  | .alloc e => match zeroA P e with
    | some z => boxOut an z true
    | none => none
  | .box _ x => match cellsA (ev x) with
    | some cs => boxOut an cs true
    | none => none
  | .build t parts => buildOut P t (parts.toList.map fun p => (p.1, ev p.2))
  | .buildSlice t n parts => litOut P t an n (parts.toList.map fun p => (p.1, ev p.2))
  | .load t a => loadOut P t ob (ev a)
  | .store t a x => storeOut P t ob (ev a) (ev x)
  | .nilCheck x => nilOut (ev x)
  | .binOp op t x y _ => binA P op an t (ev x) (ev y)
  | .unOp op _ x => unA op an (ev x)
  | .convert src dst x => convOut P src dst an (ev x)
  | .makeSlice t l c => makeOut P t an (ev l) (ev c)
  | .slice t x lo hi mx => sliceOut P t pu ob (ev x) (lo.map ev) (hi.map ev) (mx.map ev)
  | .fieldAddr s x f => fieldAddrOut P s (ev x) f
  | .field s x f => fieldOut P s (ev x) f
  | .indexAddr t x i => indexAddrOut P t ob (ev x) (ev i)
  | .index t x i => indexOut P t (ev x) (ev i)
  | .extract x i => extractOut (ev x) i
  | .makeFunc fn first caps => match fn with
    | .func f => bif first.isEmpty then some { r := .fn f (caps.toList.map ev) } else none
    | _ => none
  | .call c => match c.callee with
    | .value f => callOut P an ob (ev f) (c.args.toList.map ev)
    | .builtin b => builtinOut P b c.argTypes an ob (c.args.toList.map ev)
    | _ => none
  | _ => none
theorem relL_map {κ : Nat → Value} {w : World} {S : Bool → Nat → Prop} {ev : Operand → AV} {ρ : Operand → Value} (hev : ∀ x, Rel κ w S (ev x) (ρ x)) (xs : List Operand) : RelL κ w S (xs.map ev) (xs.map ρ) := by
  induction xs with
  | nil => exact .nil
  | cons x xs ih => exact .cons (hev x) ih
theorem op_ok {P : Program} {pu : Bool} {o : Oper} {an : Ans} {ev : Operand → AV} {ρ : Operand → Value} {B : Base} {κ : Nat → Value} {ob obr : Nat → Option Ob} {w : World} {out : Out} (hr : opRun P pu o.op an ev obr = some out) (hc : out.cond)
    (hm : MS B κ ob w) (hsub : ∀ i o, obr i = some o → ob i = some o) (hpu : pu = true → ∀ j, B.bo j = false) (hn : ∀ i ∈ an.news, NewOk B ob i) (hev : ∀ x, Rel κ w (SS B κ ob w) (ev x) (ρ x)) :
    Does P o ρ w fun v w' => Good B κ ob w an.news out v w' := by
  have plain : ∀ {v : Value}, out.wr = [] → Rel κ w (SS B κ ob w) out.r v → Good B κ ob w an.news out v w := fun {v} h1 h2 => by
    obtain ⟨r, wr, c⟩ := out
    simp only at h1
    subst h1
    exact Good.pure hm _ h2
  obtain ⟨dst, op, type, pos, after, guard⟩ := o
  cases op <;> simp only [opRun, reduceCtorEq] at hr
  case move x => cases hr; exact .inl ⟨_, w, rfl, plain rfl (hev x)⟩
  case assign x => cases hr; exact .inl ⟨_, w, rfl, plain rfl (hev x)⟩
  case pick c a b =>
    have hcv := hev c
    unfold pickOut at hr
    split at hr
    · rename_i hb; rw [hb] at hcv; cases hr; exact .inl ⟨_, w, by simp [execOp, hcv.val_of, asBool], plain rfl (hev a)⟩
    · rename_i hb; rw [hb] at hcv; cases hr; exact .inl ⟨_, w, by simp [execOp, hcv.val_of, asBool], plain rfl (hev b)⟩
    · cases hr
  case alloc e =>
    split at hr
    · rename_i z hz
      obtain ⟨zv, hz1, rfl⟩ := run_zeroA hz
      exact .inl ⟨_, _, by simp [execOp, Instr.alloc, hz1, newVar, newRow], good_box hm hn e (RelL.vals _) hr⟩
    · cases hr
  case box e x =>
    split at hr
    · rename_i cs hcs
      exact .inl ⟨_, _, by simp [execOp, Instr.box, newVar, newRow], good_box hm hn e (cellsA_rel (hev x) hcs) hr⟩
    · cases hr
  case build t parts =>
    obtain ⟨h1, v, h2, h3⟩ := run_buildOut (P := P) hev hr
    exact .inl ⟨v, w, by simp [execOp, h3], plain h1 h2⟩
  case buildSlice t n parts =>
    obtain ⟨v, w', h1, h2⟩ := run_litOut (P := P) hm hn hev hr
    exact .inl ⟨v, w', by simp [execOp, h1], h2⟩
  case load t a =>
    obtain ⟨h1, v, h2, h3⟩ := run_loadOut (P := P) hm hsub (hev a) hr hc
    exact .inl ⟨v, w, by simp [execOp, h3], plain h1 h2⟩
  case store t a x =>
    obtain ⟨w', h1, κ', h2, h3⟩ := run_storeOut (P := P) hm hsub (hev a) (hev x) hr hc
    exact .inr (.inl ⟨w', by simp [execOp, h1], κ', fun i _ => h2 i (by simp), h3⟩)
  case nilCheck x =>
    have hx := hev x
    unfold nilOut at hr
    split at hr
    · rename_i hb
      cases hr
      rw [hb] at hx
      refine .inl ⟨ρ x, w, ?_, plain rfl (by rw [hb]; exact hx)⟩
      cases hx with
      | tree _ _ h => generalize hv : ρ x = v at h; cases h; simp [execOp, hv]
    · rename_i hb
      cases hr
      rw [hb] at hx
      refine .inl ⟨ρ x, w, ?_, plain rfl (by rw [hb]; exact hx)⟩
      generalize hv : ρ x = v at hx
      cases hx with
      | tree _ _ h => cases h
      | ref => simp [execOp, hv]
    · rename_i hb
      cases hr
      rw [hb] at hx
      refine .inl ⟨ρ x, w, ?_, plain rfl (by rw [hb]; exact hx)⟩
      generalize hv : ρ x = v at hx
      cases hx with
      | tree _ _ h => cases h
      | elt => simp [execOp, hv]
    · cases hr
  case binOp op t x y ty =>
    obtain ⟨h1, v, h2, h3⟩ := run_binA (P := P) hr hc (hev x) (hev y) x y
    refine .inl ⟨v, w, ?_, plain h1 (.tree _ _ h2)⟩
    show (Sem.run P (do pure (Next.value (← (do eqGuard op t x y (ρ x) (ρ y); binOp op t (ρ x) (ρ y) : Sem Value)))) w) = _
    rw [Sem.run_bind, h3]
    rfl
  case unOp op t x =>
    obtain ⟨h1, v, h2, h3⟩ := run_unA (P := P) hr hc (hev x)
    exact .inl ⟨v, w, by simp [execOp, h3], plain h1 (by rw [h2]; exact Rel.of_val v)⟩
  case convert src dst x =>
    obtain ⟨h1, v, h2, h3⟩ := run_convOut (P := P) hr hc (hev x)
    exact .inl ⟨v, w, by simp [execOp, h3], plain h1 h2⟩
  case makeSlice t l c =>
    obtain ⟨v, w', h1, h2⟩ := run_makeOut (P := P) hm hn (hev l) (hev c) hr hc
    exact .inl ⟨v, w', by simp [execOp, h1], h2⟩
  case slice t x lo hi mx =>
    have hopt : ∀ (z : Option Operand) (a : AV), z.map ev = some a → ∃ v, z.map ρ = some v ∧ Rel κ w (SS B κ ob w) a v := fun z a h => by
      cases z with
      | none => cases h
      | some z => cases h; exact ⟨_, rfl, hev z⟩
    have hopt0 : ∀ (z : Option Operand), z.map ev = none → z.map ρ = none := fun z h => by cases z <;> first | rfl | cases h
    obtain ⟨v, h1, h2⟩ := run_sliceOut (P := P) hm hsub hpu (hev x) (hopt lo) (hopt0 lo) (hopt hi) (hopt0 hi) (hopt mx) (hopt0 mx) hr hc an.news
    exact .inl ⟨v, w, by simp [execOp, h1], h2⟩
  case fieldAddr s x f =>
    obtain ⟨h1, v, h2, h3⟩ := run_fieldAddrOut (P := P) (hev x) hr
    exact .inl ⟨v, w, by simp [execOp, h3], plain h1 h2⟩
  case field s x f =>
    obtain ⟨h1, v, h2, h3⟩ := run_fieldOut (P := P) (hev x) hr
    exact .inl ⟨v, w, by simp [execOp, h3], plain h1 h2⟩
  case indexAddr t x i =>
    obtain ⟨h1, v, h2, h3⟩ := run_indexAddrOut (P := P) hm hsub (hev x) (hev i) hr hc
    exact .inl ⟨v, w, by simp [execOp, h3], plain h1 h2⟩
  case index t x i =>
    obtain ⟨h1, v, h2, h3⟩ := run_indexOut (P := P) (hev x) (hev i) hr hc
    exact .inl ⟨v, w, by simp [execOp, h3], plain h1 h2⟩
  case extract x i =>
    have hx := hev x
    unfold extractOut at hr
    split at hr
    · rename_i cs hb
      split at hr
      · rename_i a ha
        cases hr
        rw [hb] at hx
        obtain ⟨vs, hv, hrel⟩ := hx.tup_of
        obtain ⟨v, h1, h2⟩ := hrel.at_ ha
        rw [Array.getElem?_toList] at h1
        exact .inl ⟨v, w, by simp [execOp, Instr.extract, hv, h1], plain rfl h2⟩
      · cases hr
    · cases hr
  case makeFunc fn first caps =>
    split at hr
    · rename_i f
      cases hb : first.isEmpty with
      | false => simp [hb] at hr
      | true =>
        simp only [hb, cond_true, Option.some.injEq] at hr
        subst hr
        have he : first = #[] := by simpa using hb
        refine .inl ⟨.func (.func f) #[] (caps.map ρ), w, by simp [execOp, Instr.makeFunc, he], plain rfl ?_⟩
        have := relL_map hev caps.toList
        exact .fn f _ _ (by simp) fun i a v ha hv => this.2 i a v ha (by simpa using hv)
    · cases hr
  case call c =>
    obtain ⟨callee, args, ts⟩ := c
    cases callee <;> simp only [reduceCtorEq] at hr
    case value f =>
      have hf := hev f
      unfold callOut at hr
      split at hr
      · rename_i args' fr res id caps hb
        rw [hb] at hf
        obtain ⟨vs, hv, hrel⟩ := hf.fn_of
        cases hbb : (callable P id && (AV.idsL (args'.map (·.2))).isEmpty && (AV.ids res).isEmpty) with
        | false => simp [hbb] at hr
        | true =>
          simp only [hbb, cond_true, Option.some.injEq] at hr
          subst hr
          simp only [Bool.and_eq_true, List.isEmpty_iff] at hbb
          obtain ⟨⟨b1, b2⟩, b3⟩ := hbb
          have hca := Conj.all hc
          have c1 := hca _ List.mem_cons_self
          have c2 := fun p hp => hca p (List.mem_cons_of_mem _ hp)
          refine .inr (.inr ⟨id, args.map ρ ++ vs, w, ?_, ?_⟩)
          · unfold callable at b1
            split at b1
            · rename_i fn hfn
              simp only [Bool.and_eq_true, Bool.not_eq_true'] at b1
              obtain ⟨d1, d2⟩ := b1
              have d1' : fn.body ≠ none := by intro hbd; rw [hbd] at d1; cases d1
              have d2' : ¬ fn.name = "runtime.NumGoroutine" := by simpa using d2
              simp [execOp, resolve, hv, Deferred.ofValue, invoke, callFunc, hfn, d1', d2']
            · cases b1
          · have := con_use (news := (Ans.call args' fr res).news) c1 b2 b3 hm hsub ((relL_map hev args.toList).append hrel) c2
            have e : (args.toList.map ρ ++ vs.toList).toArray = args.map ρ ++ vs := by apply Array.ext'; simp
            rw [e] at this
            exact this
      · cases hr
    case builtin b =>
      have hargs := relL_map hev args.toList
      unfold builtinOut at hr
      obtain ⟨tl⟩ := ts
      obtain ⟨al⟩ := args
      split at hr
      · rename_i t x h1 h2
        simp only at h1 h2
        subst h1
        obtain ⟨xo, rfl⟩ : ∃ xo, al = [xo] := by
          cases al with
          | nil => simp at h2
          | cons a l => cases l with
            | nil => exact ⟨a, rfl⟩
            | cons _ _ => simp at h2
        simp at h2
        subst h2
        obtain ⟨e1, v, e2, e3⟩ := run_lenOut (P := P) (ty := type) hm hsub (hev xo) hr
        exact .inl ⟨v, w, by simp [execOp, resolve, invoke, builtin, e3], plain e1 e2⟩
      · rename_i t t2 s x h1 h2
        simp only at h1 h2
        subst h1
        obtain ⟨so, xo, rfl⟩ : ∃ so xo, al = [so, xo] := by
          cases al with
          | nil => simp at h2
          | cons a l => cases l with
            | nil => simp at h2
            | cons b l => cases l with
              | nil => exact ⟨a, b, rfl⟩
              | cons _ _ => simp at h2
        simp at h2
        obtain ⟨rfl, rfl⟩ := h2
        obtain ⟨v, w', e1, e2⟩ := run_appendOut (P := P) (ty := type) hm hsub hn (hev so) (hev xo) hr hc
        exact .inl ⟨v, w', by simp [execOp, resolve, invoke, builtin, e1], e2⟩
      · obtain ⟨e1, v, e2, e3⟩ := run_minmaxOut (P := P) (w := w) (mx := true) (vs := (al.map ρ).toArray) hr (by simpa using hargs) tl.toArray type
        simp only [cond_true] at e3
        exact .inl ⟨v, w, by simp [execOp, resolve, invoke, builtin, e3], plain e1 e2⟩
      · obtain ⟨e1, v, e2, e3⟩ := run_minmaxOut (P := P) (w := w) (mx := false) (vs := (al.map ρ).toArray) hr (by simpa using hargs) tl.toArray type
        simp only [cond_false] at e3
        exact .inl ⟨v, w, by simp [execOp, resolve, invoke, builtin, e3], plain e1 e2⟩
      · cases hr
end Go.Proofs.Ytmnboneljjijmaa.Ax
