/- The abstract run's memory operations: addresses, loading, storing, new objects. Plain lemmas on the model. No conditions. -/
import Derived.Test.YtngmfpjhlcfapaaDoorAxC
namespace Go.Proofs.YtngmfpjhlcfapaaDoor.Ax
open Go.RowKit
set_option linter.unusedVariables false
set_option linter.unusedSimpArgs false

theorem AV.idsL_all {cs : List AV} (h : AV.idsL cs = []) {i : Nat} {a : AV} (hi : cs[i]? = some a) : a.ids = [] := by
  induction cs generalizing i with
  | nil => simp at hi
  | cons c r ih =>
    simp only [AV.idsL, List.append_eq_nil_iff] at h
    cases i with
    | zero => simp at hi; subst hi; exact h.1
    | succ i => exact ih h.2 (by simpa using hi)
theorem Rel.toT {κ : Nat → Value} {w : World} {S : Bool → Nat → Prop} {a : AV} {v : Value} (h : Rel κ w S a v) (hi : a.ids = []) : RelT w S a v := by
  induction h with
  | tree a v h => exact h
  | agg cs vs h1 _ ih => exact .agg cs vs h1 fun i a v ha hv => ih i a v ha hv (AV.idsL_all hi ha)
  | tup cs vs h1 _ ih => exact .tup cs vs h1 fun i a v ha hv => ih i a v ha hv (AV.idsL_all hi ha)
  | fn f cs vs h1 _ ih => exact .fn f cs vs h1 fun i a v ha hv => ih i a v ha hv (AV.idsL_all hi ha)
  | ref i off b h => simp [AV.ids] at hi
  | elt i sz k j b n c h => simp [AV.ids] at hi
  | arr i A n c h => simp [AV.ids] at hi

theorem addr_add (b o k : Nat) : (⟨b, o, none⟩ : Addr).add k = ⟨b, o + k, none⟩ := by unfold Addr.add; split <;> simp_all

/-- The cells from an address on. -/
def cellsAt (ob : Nat → Option Ob) : AV → Option (List AV × Option Prop)
  | .ptr _ cs => some (cs, none)
  | .ref i off => match ob i with
    | some (.box cs) => some (cs.drop off, none)
    | _ => none
  | .elt i sz k j => match ob i with
    | some (.arr sz' n f) => bif Nat.beq sz sz' then some ((f k).drop j, some (k < n)) else none
    | _ => none
  | _ => none
theorem cellsAt_run {B : Base} {κ : Nat → Value} {ob obr : Nat → Option Ob} {w : World} (hm : MS B κ ob w) (hsub : ∀ i o, obr i = some o → ob i = some o) {a : AV} {v : Value} (h : Rel κ w (SS B κ ob w) a v)
    {cs : List AV} {c : Option Prop} (hc : cellsAt obr a = some (cs, c)) (hcc : (Out.mk .any [] c).cond) : ∃ (b o : Nat) (g : Nat → Value), v = .pointer (some ⟨b, o, none⟩) ∧ (∀ j, j < cs.length → w.cell? ⟨b, o + j, none⟩ = some (g j)) ∧
      ∀ (j : Nat) (u : AV), cs[j]? = some u → Rel κ w (SS B κ ob w) u (g j) := by
  cases a with
  | ptr fr cs' =>
    cases hc
    cases h with
    | tree _ _ h => cases h with
      | ptr fr cs b o g hS h1 h2 => exact ⟨b, o, g, rfl, h1, fun j u hj => .tree _ _ (h2 j u hj)⟩
  | ref i off =>
    simp only [cellsAt] at hc
    split at hc
    · rename_i cs0 ho
      cases hc
      cases h with
      | tree _ _ h => cases h
      | ref _ _ b hκ =>
        obtain ⟨b', cur, e, e1, h1, h2, h3⟩ := hm.obj i _ (hsub i _ ho)
        rw [hκ] at e1
        cases e1
        refine ⟨b, off, fun j => cur.getD (off + j) undef, rfl, fun j hj => ?_, fun j u hj => ?_⟩
        · simp at hj
          rw [cell_of_row w b _ cur e (0, 0) h1]
          simp [Array.getD, show off + j < cur.size by omega]
        · have hj' : cs0[off + j]? = some u := by simpa using hj
          have hlt := (List.getElem?_eq_some_iff.1 hj').1
          exact h3 _ u _ hj' (by simp [Array.getD, show off + j < cur.size by omega])
    · cases hc
  | elt i sz k j =>
    simp only [cellsAt] at hc
    split at hc
    · rename_i sz' n f ho
      cases hb : Nat.beq sz sz' with
      | false => simp [hb] at hc
      | true =>
        simp only [hb, cond_true, Option.some.injEq, Prod.mk.injEq] at hc
        obtain ⟨rfl, rfl⟩ := hc
        have hsz := Nat.eq_of_beq_eq_true hb
        subst hsz
        cases h with
        | tree _ _ h => cases h
        | elt _ _ _ _ b n' c' hκ =>
          have hobj := hm.obj i _ (hsub i _ ho)
          rw [hκ] at hobj
          rcases hobj with ⟨h0, _⟩ | ⟨b', cur, e, c, e1, h0, h1, h2, h3, h4, h5⟩
          · have hcc' : k < n := hcc
            omega
          · cases e1
            obtain ⟨hl, hcell⟩ := h5 k hcc
            refine ⟨b, k * sz + j, fun q => cur.getD (k * sz + j + q) undef, rfl, fun q hq => ?_, fun q u hq => ?_⟩
            · simp [hl] at hq
              obtain ⟨u, hu⟩ : ∃ u, (f k)[j + q]? = some u := ⟨_, List.getElem?_eq_getElem (by omega)⟩
              obtain ⟨x, hx, _, _⟩ := hcell _ u hu
              rw [cell_of_row w b _ cur e (0, 0) h1]
              rw [← Nat.add_assoc] at hx
              rw [hx]
              simp [hx]
            · have hq' : (f k)[j + q]? = some u := by simpa using hq
              obtain ⟨x, hx, _, hr⟩ := hcell _ u hq'
              rw [← Nat.add_assoc] at hx
              have : cur.getD (k * sz + j + q) undef = x := by simp [hx]
              show Rel κ w _ u (cur.getD (k * sz + j + q) undef)
              rw [this]
              exact .tree _ _ hr
    · cases hc
  | _ => cases hc

def loadOut (P : Program) (t : TypeId) (ob : Nat → Option Ob) (a : AV) : Option Out :=
  match cellsAt ob a with
  | some (cs, c) => match loadA P t cs with
    | some r => some { r := r, c := c }
    | none => none
  | none => none
theorem run_loadOut {P : Program} {t : TypeId} {B : Base} {κ : Nat → Value} {ob obr : Nat → Option Ob} {w : World} (hm : MS B κ ob w) (hsub : ∀ i o, obr i = some o → ob i = some o) {a : AV} {va : Value} (h : Rel κ w (SS B κ ob w) a va)
    {out : Out} (ho : loadOut P t obr a = some out) (hc : out.cond) : out.wr = [] ∧ ∃ v, Rel κ w (SS B κ ob w) out.r v ∧ (Instr.loadAt t va).run P w = .ok v w := by
  unfold loadOut at ho
  split at ho
  · rename_i cs c h1
    split at ho
    · rename_i r h2
      cases ho
      obtain ⟨b, o, g, rfl, h3, h4⟩ := cellsAt_run hm hsub h h1 hc
      obtain ⟨v, h5, h6⟩ := run_loadVar (P := P) h2 b o g h3 h4
      exact ⟨rfl, v, h6, by simp [Instr.loadAt, Instr.sureAddr, h5]⟩
    · cases ho
  · cases ho

/-! ### new objects -/
theorem appO_one (ob : Nat → Option Ob) (i : Nat) (o : Option Ob) (j : Nat) : appO ob [(i, o)] j = if j = i then o else ob j := by
  simp only [appO]
  by_cases h : j = i
  · subst h; simp
  · have : Nat.beq j i = false := Bool.eq_false_iff.2 fun e => h (Nat.eq_of_beq_eq_true e)
    simp [this, h]
/-- What is known of new ids. -/
def NewOk (B : Base) (ob : Nat → Option Ob) (i : Nat) : Prop := ob i = none ∧ B.bo i = false ∧ ∀ j o, ob j = some o → i ∉ o.ids
theorem good_new {B : Base} {κ : Nat → Value} {ob : Nat → Option Ob} {w : World} (hm : MS B κ ob w) {i : Nat} (hn : NewOk B ob i) (o : Ob) (cur : Array Value) (e : TypeId) (v : Value) (hv : ∀ b, blk v = some b → b = w.heap.size)
    (hobj : ∀ (κ' : Nat → Value) (S' : Bool → Nat → Prop), (∀ fr b, SS B κ ob w fr b → (w.alloc (.cells cur e)).heap[b]? = w.heap[b]? ∧ S' fr b) → (∀ k, k ≠ i → κ' k = κ k) → ObRel κ' (w.alloc (.cells cur e)) S' o v)
    (r : AV) (hr : ∀ (κ' : Nat → Value) w' S', κ' i = v → Rel κ' w' S' r v) (c : Option Prop) : Good B κ ob w [i] { r := r, wr := [(i, some o)], c := c } v (w.alloc (.cells cur e)) := by
  have hp := MS.put (ob' := appO ob [(i, some o)]) (w' := w.alloc (.cells cur e)) hm i o v (by simp [appO_one]) (fun j hj _ => by simp [appO_one, hj]) (fun h => absurd hn.1 h)
    (fun b hb => ⟨.inl (hv b hb), by rw [hv b hb]; simp⟩) rfl rfl rfl (by simp) (fun b hb _ => Go.heap_alloc_old w _ hb)
    (fun _ j oj hj ho => hn.2.2 j oj (by simpa [appO_one, hj] using ho)) (fun h => by rw [hn.2.1] at h; cases h)
    (fun hfr => hobj _ _ hfr fun k hk => updK_ne _ _ hk)
  refine ⟨_, fun k hk => updK_ne _ _ (by simpa using hk), hp.1, hr _ _ _ (updK_same _ _ _), hp.2⟩

def zeroA (P : Program) (e : TypeId) : Option (List AV) := match P.info? e with
  | some i => match i.zero with
    | some z => some (z.cells.toList.map .val)
    | none => none
  | none => none
theorem run_zeroA {P : Program} {e : TypeId} {cs : List AV} (h : zeroA P e = some cs) : ∃ z : Value, (∀ w, (zeroValue e).run P w = .ok z w) ∧ cs = z.cells.toList.map .val := by
  unfold zeroA at h
  split at h
  · rename_i i hi
    split at h
    · rename_i z hz
      cases h
      exact ⟨z, fun w => by simp [zeroValue, typeInfo, hi, hz], rfl⟩
    · cases h
  · cases h
def boxOut (an : Ans) (cs : List AV) (tree : Bool) : Option Out :=
  match an with
  | .new i => bif (AV.idsL cs).any (Nat.beq i) then none else some { r := .ref i 0, wr := [(i, some (.box cs))] }
  | _ => none
theorem mem_any {i : Nat} {l : List Nat} (h : l.any (Nat.beq i) = false) : i ∉ l := by
  intro hi
  rw [List.any_eq_false] at h
  exact h i hi (by simp)
theorem good_box {B : Base} {κ : Nat → Value} {ob : Nat → Option Ob} {w : World} (hm : MS B κ ob w) {an : Ans} (hn : ∀ i ∈ an.news, NewOk B ob i) {cs : List AV} {cur : Array Value} (e : TypeId) (hc : RelL κ w (SS B κ ob w) cs cur.toList)
    {tree : Bool} {out : Out} (ho : boxOut an cs tree = some out) : Good B κ ob w an.news out (.pointer (some ⟨w.heap.size, 0, none⟩)) (w.alloc (.cells cur e)) := by
  unfold boxOut at ho
  split at ho
  · rename_i i
    cases hb : (AV.idsL cs).any (Nat.beq i) with
    | true => simp [hb] at ho
    | false =>
      simp only [hb, cond_false, Option.some.injEq] at ho
      subst ho
      refine good_new hm (hn i (by simp [Ans.news])) (.box cs) cur e _ (fun b hb => by simp [blk] at hb; exact hb.symm) (fun κ' S' hk hk' => ?_) _ (fun κ' w' S' h => .ref i 0 _ h) _
      refine ⟨_, cur, e, rfl, heap_alloc_new w _, by simpa using hc.1, fun j u x hj hx => (hc.2 j u x hj (by simpa using hx)).keep hk fun q hq => hk' q fun e => AV.idsL_mem hj (mem_any hb) (e ▸ hq)⟩
  · cases ho

/-- An own array made at once. -/
def arrOut (an : Ans) (sz n : Nat) (f : Nat → List AV) (c : Option Prop) : Option Out :=
  match an with
  | .new i => some { r := .arr i, wr := [(i, some (.arr sz n f))], c := c }
  | _ => none
theorem good_arr {B : Base} {κ : Nat → Value} {ob : Nat → Option Ob} {w : World} (hm : MS B κ ob w) {an : Ans} (hn : ∀ i ∈ an.news, NewOk B ob i) {sz n cap : Nat} {f : Nat → List AV} {cur : Array Value} (e : TypeId) {c : Option Prop}
    (hnc : n ≤ cap) (hcm : cap ≤ maxLen) (hsize : cap * sz ≤ cur.size) (hcells : ∀ i, i < n → (f i).length = sz ∧ ∀ (j : Nat) (u : AV), (f i)[j]? = some u → ∃ x, cur[i * sz + j]? = some x ∧ x.oneCell' = true ∧ RelT w (SS B κ ob w) u x)
    {out : Out} (ho : arrOut an sz n f c = some out) : Good B κ ob w an.news out (.slice (some ⟨w.heap.size, 0, none⟩) n cap) (w.alloc (.cells cur e)) := by
  unfold arrOut at ho
  split at ho
  · rename_i i
    cases ho
    refine good_new hm (hn i (by simp [Ans.news])) (.arr sz n f) cur e _ (fun b hb => by simp [blk] at hb; exact hb.2.symm) (fun κ' S' hk hk' => ?_) _ (fun κ' w' S' h => .arr i _ _ _ h) _
    by_cases h0 : cap = 0
    · exact .inl ⟨by omega, _, by rw [h0, show n = 0 by omega]⟩
    · refine .inr ⟨_, cur, e, cap, rfl, by omega, heap_alloc_new w _, hnc, hsize, hcm, fun k hkn => ⟨(hcells k hkn).1, fun j u hj => ?_⟩⟩
      obtain ⟨x, hx, h1, hr⟩ := (hcells k hkn).2 j u hj
      exact ⟨x, hx, h1, hr.keep hk⟩
  · cases ho

/-! ### storing -/
def storeOut (P : Program) (t : TypeId) (ob : Nat → Option Ob) (a x : AV) : Option Out :=
  match a, cellsA x, sizeP P t with
  | .ref i off, some us, some n => match ob i with
    | some (.box cs) => bif us.all oneA && Nat.beq us.length n && Nat.ble (off + n) cs.length then some { r := .any, wr := [(i, some (.box (spl cs off us)))] } else none
    | _ => none
  | .elt i sz k j, some us, some m => match ob i with
    | some (.arr sz' n f) => bif us.all oneA && Nat.beq us.length m && Nat.ble (j + m) sz && Nat.beq sz sz' && (AV.idsL us).isEmpty then
        some { r := .any, wr := [(i, some (.arr sz n (fun q => bif Nat.beq q k then spl (f k) j us else f q)))], c := some (k < n) } else none
    | _ => none
  | _, _, _ => none
theorem all_one {κ : Nat → Value} {w : World} {S : Bool → Nat → Prop} {us : List AV} {vs : List Value} (h : RelL κ w S us vs) (ho : us.all oneA = true) : ∀ v ∈ vs, v.oneCell' = true := by
  intro v hv
  obtain ⟨j, hj, rfl⟩ := List.getElem_of_mem hv
  have hl := h.1
  have hu : us[j]? = some us[j] := List.getElem?_eq_getElem (by omega)
  exact oneA_rel (h.2 j _ _ hu (List.getElem?_eq_getElem hj)) (List.all_eq_true.1 ho _ (List.getElem_mem _))
theorem run_storeOut {P : Program} {t : TypeId} {B : Base} {κ : Nat → Value} {ob obr : Nat → Option Ob} {w : World} (hm : MS B κ ob w) (hsub : ∀ i o, obr i = some o → ob i = some o) {a x : AV} {va vx : Value}
    (ha : Rel κ w (SS B κ ob w) a va) (hx : Rel κ w (SS B κ ob w) x vx) {out : Out} (ho : storeOut P t obr a x = some out) (hc : out.cond) :
    ∃ w', (Instr.storeAt t va vx).run P w = .ok () w' ∧ Good B κ ob w [] out undef w' := by
  unfold storeOut at ho
  split at ho
  · rename_i _ _ _ i off us n hus hs
    split at ho
    · rename_i cs hoi
      cases hb : (us.all oneA && Nat.beq us.length n && Nat.ble (off + n) cs.length) with
      | false => simp [hb] at ho
      | true =>
        simp only [hb, cond_true, Option.some.injEq] at ho
        subst ho
        simp only [Bool.and_eq_true, Nat.beq_eq, Nat.ble_eq] at hb
        obtain ⟨⟨b1, b2⟩, b3⟩ := hb
        have hobi := hsub i _ hoi
        cases ha with
        | tree _ _ h => cases h
        | ref _ _ b hκ =>
          obtain ⟨b', cur, e, e1, h1, h2, h3⟩ := hm.obj i _ hobi
          rw [hκ] at e1
          cases e1
          have hrel := cellsA_rel hx hus
          have hlen := hrel.1
          obtain ⟨w', r1, r2, r3, r4, r5, r6, r7⟩ := run_storeVar (P := P) hs h1 (o := off) (v := vx) (by rw [← hlen]; exact b2) (all_one hrel b1) (by omega)
          refine ⟨w', by simp [Instr.storeAt, Instr.sureAddr, r1], ?_⟩
          have hne : ob i ≠ none := by rw [hobi]; simp
          have hp := MS.put (ob' := appO ob [(i, some (.box (spl cs off us)))]) (w' := w') hm i (.box (spl cs off us)) (κ i) (by simp [appO_one]) (fun j hj _ => by simp [appO_one, hj]) (fun _ => rfl)
            (fun c hc' => ⟨.inr ⟨i, hne, .inl rfl, hc'⟩, by rw [r3]; exact (hm.ownb i c hne hc').1⟩) r5 r6 r7 (by omega) (fun c _ hc' => r4 c (fun e => hc' (by rw [hκ, e]; rfl)))
            (fun h => absurd h hne) (fun _ => rfl) (fun hfr => by
              refine (fun (hh : ∀ v, v = κ i → ObRel _ _ _ _ v) => hh _ rfl) ?_
              intro v hv
              rw [hκ] at hv
              subst hv
              have hrl : RelL κ w (SS B κ ob w) cs cur.toList := ⟨by simpa using h2, fun j u x hj hx => h3 j u x hj (by simpa using hx)⟩
              have hspl := relL_spl (off := off) hrl hrel (by omega)
              refine ⟨b, _, e, rfl, r2, by simpa using hspl.1, fun j u x hj hx => (hspl.2 j u x hj (by simpa using hx)).keep hfr fun q _ => ?_⟩
              by_cases eq : q = i
              · subst eq; rw [updK_same, hκ]
              · exact updK_ne _ _ eq)
          have hκ' : updK κ i (κ i) = κ := by funext q; by_cases eq : q = i <;> simp [updK, eq]
          rw [hκ'] at hp
          exact ⟨κ, fun _ _ => rfl, hp.1, .tree _ _ (.any _), hp.2⟩
    · cases ho
  · rename_i _ _ _ i sz k j us m hus hs
    split at ho
    · rename_i sz' n f hoi
      cases hb : (us.all oneA && Nat.beq us.length m && Nat.ble (j + m) sz && Nat.beq sz sz' && (AV.idsL us).isEmpty) with
      | false => simp [hb] at ho
      | true =>
        simp only [hb, cond_true, Option.some.injEq] at ho
        subst ho
        simp only [Bool.and_eq_true, Nat.beq_eq, Nat.ble_eq, List.isEmpty_iff] at hb
        obtain ⟨⟨⟨⟨b1, b2⟩, b3⟩, b4⟩, b5⟩ := hb
        subst b4
        have hobi := hsub i _ hoi
        have hkn : k < n := hc
        cases ha with
        | tree _ _ h => cases h
        | elt _ _ _ _ b n' c' hκ =>
          have hobj := hm.obj i _ hobi
          rw [hκ] at hobj
          rcases hobj with ⟨h0, _⟩ | ⟨b', cur, e, c, e1, h0, h1, h2, h3, h4, h5⟩
          · omega
          · cases e1
            have hrel := cellsA_rel hx hus
            have hlen := hrel.1
            have hin : k * sz + j + m ≤ cur.size := by
              have : (k + 1) * sz ≤ c' * sz := Nat.mul_le_mul_right _ (by omega)
              rw [Nat.succ_mul] at this
              omega
            obtain ⟨w', r1, r2, r3, r4, r5, r6, r7⟩ := run_storeVar (P := P) hs h1 (o := k * sz + j) (v := vx) (by rw [← hlen]; exact b2) (all_one hrel b1) hin
            refine ⟨w', by simp [Instr.storeAt, Instr.sureAddr, r1], ?_⟩
            have hne : ob i ≠ none := by rw [hobi]; simp
            have hp := MS.put (ob' := appO ob [(i, some (.arr sz n (fun q => bif Nat.beq q k then spl (f k) j us else f q)))]) (w' := w') hm i (.arr sz n (fun q => bif Nat.beq q k then spl (f k) j us else f q)) (κ i) (by simp [appO_one])
              (fun j hj _ => by simp [appO_one, hj]) (fun _ => rfl)
              (fun c hc' => ⟨.inr ⟨i, hne, .inl rfl, hc'⟩, by rw [r3]; exact (hm.ownb i c hne hc').1⟩) r5 r6 r7 (by omega) (fun q _ hc' => r4 q (fun e => hc' (by rw [hκ, e]; simp [blk]; omega)))
              (fun h => absurd h hne) (fun _ => rfl) (fun hfr => by
                refine (fun (hh : ∀ v, v = κ i → ObRel _ _ _ _ v) => hh _ rfl) ?_
                intro v hv
                rw [hκ] at hv
                subst hv
                refine .inr ⟨b, _, e, c', rfl, h0, r2, h2, by rw [splA_size]; exact h3, h4, fun q hq => ?_⟩
                have hfk := (h5 k hkn).1
                by_cases eq : q = k
                · subst eq
                  simp only [Nat.beq_refl, cond_true]
                  refine ⟨(spl_length (by omega)).trans hfk, fun p u hu => ?_⟩
                  rw [spl_get (by omega)] at hu
                  have hget := splA_get vx.cells.toList cur (q * sz + j) (by omega) (q * sz + p)
                  by_cases hpj : j ≤ p ∧ p < j + us.length
                  · rw [if_pos hpj] at hu
                    obtain ⟨y, hy, hr⟩ := hrel.at_ hu
                    rw [if_pos (by omega), show q * sz + p - (q * sz + j) = p - j by omega, hy] at hget
                    exact ⟨y, hget, all_one hrel b1 y (List.mem_of_getElem? hy), (hr.toT (AV.idsL_all b5 hu)).keep hfr⟩
                  · rw [if_neg hpj] at hu
                    obtain ⟨y, hy, ho1, hr⟩ := (h5 q hq).2 p u hu
                    have hplt : p < sz := by rw [← hfk]; exact (List.getElem?_eq_some_iff.1 hu).1
                    rw [if_neg (by omega), hy] at hget
                    exact ⟨y, hget, ho1, hr.keep hfr⟩
                · have hbq : Nat.beq q k = false := Bool.eq_false_iff.2 fun e => eq (Nat.eq_of_beq_eq_true e)
                  simp only [hbq, cond_false]
                  refine ⟨(h5 q hq).1, fun p u hu => ?_⟩
                  obtain ⟨y, hy, ho1, hr⟩ := (h5 q hq).2 p u hu
                  have hplt : p < sz := by rw [← (h5 q hq).1]; exact (List.getElem?_eq_some_iff.1 hu).1
                  have hget := splA_get vx.cells.toList cur (k * sz + j) (by omega) (q * sz + p)
                  rw [if_neg ?_, hy] at hget
                  · exact ⟨y, hget, ho1, hr.keep hfr⟩
                  · rcases Nat.lt_or_ge q k with hlt | hge
                    · have : (q + 1) * sz ≤ k * sz := Nat.mul_le_mul_right _ (by omega)
                      rw [Nat.succ_mul] at this
                      omega
                    · have : (k + 1) * sz ≤ q * sz := Nat.mul_le_mul_right _ (by omega)
                      rw [Nat.succ_mul] at this
                      omega)
            have hκ' : updK κ i (κ i) = κ := by funext q; by_cases eq : q = i <;> simp [updK, eq]
            rw [hκ'] at hp
            exact ⟨κ, fun _ _ => rfl, hp.1, .tree _ _ (.any _), hp.2⟩
    · cases ho
  · cases ho
end Go.Proofs.YtngmfpjhlcfapaaDoor.Ax
