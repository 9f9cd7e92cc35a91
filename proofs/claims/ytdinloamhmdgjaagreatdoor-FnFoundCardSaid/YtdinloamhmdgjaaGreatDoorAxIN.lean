/- Elements that are put into an array of the call's own: rows of memory under writes, and the contract of a function that takes such an array for good and gives it back longer. Plain lemmas on the model. No conditions. -/
import Derived.Test.YtdinloamhmdgjaaGreatDoorAxO
import Derived.Laws.CopyRow
import Derived.Laws.Tables
import Derived.Laws.IdiomCopy
import Derived.Lib.JoinLaws
import Derived.Lib.AppendZerosOnto
import Derived.Lib.Overlaps
import Derived.Deep.AppendSrc
import Derived.Laws.NewBlocks
namespace Go.Proofs.YtdinloamhmdgjaaGreatDoor.Ax
open Go.RowKit
set_option linter.unusedVariables false
set_option linter.unusedSimpArgs false
theorem Zdu : ∀ (vs : List Value) (g o : Nat) (cur : Array Value) (e : TypeId) (w : World), w.heap[g]? = some (.cells cur e (0, 0)) → o + vs.length ≤ cur.size →
    ∃ cur2, (w.setCells g o vs).heap[g]? = some (.cells cur2 e (0, 0)) ∧ cur2.size = cur.size ∧ (∀ j, j < vs.length → cur2[o + j]? = vs[j]?) ∧ (∀ j, j < o ∨ o + vs.length ≤ j → cur2[j]? = cur[j]?) ∧
      (∀ k, k ≠ g → (w.setCells g o vs).heap[k]? = w.heap[k]?) ∧ (w.setCells g o vs).heap.size = w.heap.size ∧ (w.setCells g o vs).os = w.os ∧ (w.setCells g o vs).tape = w.tape ∧ (w.setCells g o vs).output = w.output
  | [], g, o, cur, e, w, hg, h => ⟨cur, hg, rfl, fun j hj => absurd hj (Nat.not_lt_zero _), fun j _ => rfl, fun _ _ => rfl, rfl, rfl, rfl, rfl⟩
  | v :: r, g, o, cur, e, w, hg, h => by
    simp only [List.length_cons] at h
    have e1 : w.setCell ⟨g, o, none⟩ v = w.setRow g (cur.setIfInBounds o v) := setCell_eq_setRow w g o cur e (0, 0) v hg
    have hg1 : (w.setCell ⟨g, o, none⟩ v).heap[g]? = some (.cells (cur.setIfInBounds o v) e (0, 0)) := by rw [e1]; exact setRow_heap w g cur _ e (0, 0) hg
    obtain ⟨cur2, h1, h2, h3, h4, h5, h6, h7, h8, h9⟩ := Zdu r g (o + 1) (cur.setIfInBounds o v) e (w.setCell ⟨g, o, none⟩ v) hg1 (by simp; omega)
    refine ⟨cur2, h1, by rw [h2]; simp, fun j hj => ?_, fun j hj => ?_, fun k hk => ?_, ?_, ?_, ?_, ?_⟩
    · cases j with
      | zero =>
        rw [h4 (o + 0) (by omega)]
        simp only [Nat.add_zero, List.getElem?_cons_zero]
        rw [Array.getElem?_setIfInBounds, if_pos rfl, if_pos (by omega)]
      | succ j =>
        have := h3 j (by simp at hj; omega)
        rw [show o + (j + 1) = o + 1 + j from by omega, this]; simp
    · simp only [List.length_cons] at hj
      rw [h4 j (by omega), Array.getElem?_setIfInBounds, if_neg (by omega)]
    · show ((w.setCell ⟨g, o, none⟩ v).setCells g (o + 1) r).heap[k]? = _
      rw [h5 k hk, e1]; exact setRow_other w g k _ hk
    · show ((w.setCell ⟨g, o, none⟩ v).setCells g (o + 1) r).heap.size = _
      rw [h6, e1]; simp
    · show ((w.setCell ⟨g, o, none⟩ v).setCells g (o + 1) r).os = _
      rw [h7, e1]; rfl
    · show ((w.setCell ⟨g, o, none⟩ v).setCells g (o + 1) r).tape = _
      rw [h8, e1]; rfl
    · show ((w.setCell ⟨g, o, none⟩ v).setCells g (o + 1) r).output = _
      rw [h9, e1]; rfl
theorem Zje {P : Program} (w : World) (dT sT ty elem : TypeId) (k b o dLen dCap : Nat) (a : Addr) (sLen sCap : Nat) (cs : List Value)
    (hu : P.underlying dT = some (.slice elem)) (hs : (P.info? elem).map (·.size) = some k) (hn : cs.length = Nat.min sLen dLen * k)
    (hsrc : ∀ j v, cs[j]? = some v → w.cell? (a.add j) = some v) (hc : ∀ j, j < cs.length → (w.cell? ⟨b, o + j, none⟩).isSome = true) (hf : ∀ j, j < cs.length → w.frozen? ⟨b, o + j, none⟩ = false) (h1 : ∀ v ∈ cs, v.oneCell' = true) :
    (Builtin.copy_ #[dT, sT] ty #[.slice (some ⟨b, o, none⟩) dLen dCap, .slice (some a) sLen sCap]).run P w = .ok (goInt (Nat.min sLen dLen)) (w.setCells b o cs) := by
  have hl := run_loadCells_list (P := P) w a cs hsrc
  have hst := run_storeCells_cells (P := P) b o cs 0 w (by simpa using hc) (by simpa using hf) h1
  cases hq : P.info? elem with
  | none => simp [hq] at hs
  | some i =>
    have hi : i.size = k := by simpa [hq] using hs
    simp [Builtin.copy_, run_underlying hu, Builtin.lenOf, Builtin.firstCells, sizeOf, typeInfo, hq, hi, ← hn, hl, hst]
theorem Zhu {P : Program} (w : World) {ops : Array Oper} {rest : List Oper} {o : Oper} {a : Act} {Q : Exit → Act → World → Prop} (hgd : o.guard = none) (d s : Operand) (t t' : TypeId)
    (ho : o.op = .call { callee := .builtin .copy, args := #[d, s], argTypes := #[t, t'] }) (v u : Value) (hd : a.eval d = v) (hs : a.eval s = u) {v' : Value} {w' : World}
    (hr : (Builtin.copy_ #[t, t'] o.type #[v, u]).run P w = .ok v' w') (h : wpList P ops Q rest (a.put o.dst v') w') : wpList P ops Q (o :: rest) a w :=
  wpList_plain hgd fun K hK => by
    unfold Oper.wp execOp
    simp only [ho, resolve, invoke, builtin, Sem.run_bind, Sem.run_pure, Result.andThen_ok, List.map_toArray, List.map_cons, List.map_nil, hd, hs, hr]
    exact hK _ _ h
theorem Zog {P : Program} {ops : Array Oper} {o : Oper} {a : Act} {w : World} {K : Act → World → Prop} {Q : Exit → Act → World → Prop} {E : Prop}
    (hg : o.guard = none) (d x : Operand) (dT sT : TypeId) (hop : o.op = Op.call { callee := Callee.builtin Builtin.copy, args := #[d, x], argTypes := #[dT, sT] })
    (v u : Value) (hd : a.eval d = v) (hx : a.eval x = u) {v' : Value} {w' : World} (hr : (Builtin.copy_ #[dT, sT] o.type #[v, u]).run P w = .ok v' w') (hK : K (a.put o.dst v') w') :
    if Region.wanted o (yielded ops a.tmps) = true then Oper.wp P o a w K Q else E := by
  have hw : Region.wanted o (yielded ops a.tmps) = true := by simp [Region.wanted, hg]
  rw [if_pos hw]
  unfold Oper.wp execOp
  simp only [hop, resolve, invoke, builtin, Sem.run_bind, Sem.run_pure, Result.andThen_ok, List.map_toArray, List.map_cons, List.map_nil, hd, hx, hr]
  exact hK
theorem Yav {cs vs : List Value} {a k : Nat} {cur c1 c2 : Array Value} (hcl : a ≤ cs.length) (hvl : vs.length = k) (hcs : ∀ (t : Nat) (v : Value), cs[t]? = some v → cur[t]? = some v)
    (a3 : ∀ j, j < (cs.drop a).length → c1[a + k + j]? = (cs.drop a)[j]?) (a4 : ∀ j, j < a → c1[j]? = cur[j]?) (b3 : ∀ j, j < vs.length → c2[a + j]? = vs[j]?) (b4 : ∀ j, j < a ∨ a + vs.length ≤ j → c2[j]? = c1[j]?) :
    ∀ (t : Nat) (v : Value), (cs.take a ++ vs ++ cs.drop a)[t]? = some v → c2[t]? = some v := fun t v h => by
  have hlt : (cs.take a).length = a := by rw [List.length_take]; omega
  by_cases h1 : t < a
  · rw [List.append_assoc, List.getElem?_append_left (by omega)] at h
    rw [b4 t (.inl h1), a4 t h1]
    refine hcs t v ?_
    rw [List.getElem?_take, if_pos h1] at h
    exact h
  · by_cases h2 : t < a + k
    · rw [List.append_assoc, List.getElem?_append_right (by omega), hlt, List.getElem?_append_left (by omega)] at h
      have := b3 (t - a) (by omega)
      rw [show a + (t - a) = t from by omega] at this
      rw [this]; exact h
    · have hlen : (cs.take a ++ vs).length = a + k := by rw [List.length_append, hlt, hvl]
      rw [List.getElem?_append_right (by omega), hlen] at h
      rw [b4 t (.inr (by omega))]
      have := a3 (t - (a + k)) (List.getElem?_eq_some_iff.1 h).1
      rw [show a + k + (t - (a + k)) = t from by omega] at this
      rw [this]; exact h
theorem ins_row2 {cs vs : List Value} {a k : Nat} {c2 : Array Value} (hcl : a ≤ cs.length) (hvl : vs.length = k) (x0 : ∀ j, j < a → c2[j]? = cs[j]?) (x1 : ∀ j, j < k → c2[a + j]? = vs[j]?) (x2 : ∀ j, j < (cs.drop a).length → c2[a + k + j]? = (cs.drop a)[j]?) :
    ∀ (t : Nat) (v : Value), (cs.take a ++ vs ++ cs.drop a)[t]? = some v → c2[t]? = some v := fun t v h => by
  have hlt : (cs.take a).length = a := by rw [List.length_take]; omega
  by_cases h1 : t < a
  · rw [List.append_assoc, List.getElem?_append_left (by omega), List.getElem?_take, if_pos h1] at h
    rw [x0 t h1]; exact h
  · by_cases h2 : t < a + k
    · rw [List.append_assoc, List.getElem?_append_right (by omega), hlt, List.getElem?_append_left (by omega)] at h
      have := x1 (t - a) (by omega)
      rw [show a + (t - a) = t from by omega] at this
      rw [this]; exact h
    · have hlen : (cs.take a ++ vs).length = a + k := by rw [List.length_append, hlt, hvl]
      rw [List.getElem?_append_right (by omega), hlen] at h
      have := x2 (t - (a + k)) (List.getElem?_eq_some_iff.1 h).1
      rw [show a + k + (t - (a + k)) = t from by omega] at this
      rw [this]; exact h
structure InsPost (w : World) (k n : Nat) (kc : Nat) (L : List Value) (q : Ending) (w' : World) : Prop where
  ex : ∃ (k' c' : Nat) (cur' : Array Value) (e : TypeId), q = .returned (.slice (some ⟨k', 0, none⟩) n c') ∧ (k' = k ∨ k' = w.heap.size) ∧ k' < w'.heap.size ∧ (∀ b', b' < w.heap.size → b' ≠ k' → w'.heap[b']? = w.heap[b']?) ∧ w'.heap[k']? = some (.cells cur' e (0, 0)) ∧
    0 < c' ∧ n ≤ c' ∧ c' * kc ≤ cur'.size ∧ c' ≤ maxLen ∧ ∀ (t : Nat) (v : Value), L[t]? = some v → cur'[t]? = some v
  os : w'.os = w.os
  tape : w'.tape = w.tape
  output : w'.output = w.output
  size : w.heap.size ≤ w'.heap.size
def Zcu {α : Type} (enc : α → List Value) (xs : List α) : List Value := xs.flatMap enc
theorem Zfc {α : Type} {enc : α → List Value} {kc : Nat} (hk : ∀ x, (enc x).length = kc) : ∀ xs : List α, (Zcu enc xs).length = xs.length * kc
  | [] => by simp [Zcu]
  | x :: r => by
    have := Zfc hk r
    unfold Zcu at *
    simp only [List.flatMap_cons, List.length_append, hk, List.length_cons, this]
    rw [Nat.add_mul]; omega
theorem Zkd {α : Type} (enc : α → List Value) (xs ys : List α) : Zcu enc (xs ++ ys) = Zcu enc xs ++ Zcu enc ys := by simp [Zcu]
theorem Zjf {α : Type} [Inhabited α] {enc : α → List Value} {kc : Nat} (hk : ∀ x, (enc x).length = kc) : ∀ (xs : List α) (i j : Nat), i < xs.length → j < kc → (Zcu enc xs)[i * kc + j]? = (enc (at_ xs i))[j]?
  | [], i, j, hi, _ => absurd hi (Nat.not_lt_zero _)
  | x :: r, 0, j, hi, hj => by
    have e : Zcu enc (x :: r) = enc x ++ Zcu enc r := by simp [Zcu]
    rw [e, Nat.zero_mul, Nat.zero_add, List.getElem?_append_left (by rw [hk]; exact hj)]; rfl
  | x :: r, i + 1, j, hi, hj => by
    have e : Zcu enc (x :: r) = enc x ++ Zcu enc r := by simp [Zcu]
    have e2 : (i + 1) * kc + j = kc + (i * kc + j) := by rw [Nat.add_mul]; omega
    rw [e, e2, List.getElem?_append_right (by rw [hk]; omega), hk, Nat.add_sub_cancel_left, Zjf hk r i j (by simpa using hi) hj]
    simp [at_]
theorem Zmo {α : Type} {enc : α → List Value} {kc : Nat} (hk : ∀ x, (enc x).length = kc) (xs : List α) (i : Nat) (hi : i ≤ xs.length) : Zcu enc (xs.take i) = (Zcu enc xs).take (i * kc) ∧ Zcu enc (xs.drop i) = (Zcu enc xs).drop (i * kc) := by
  have h := Zkd enc (xs.take i) (xs.drop i)
  rw [List.take_append_drop] at h
  have hl : (Zcu enc (xs.take i)).length = i * kc := by rw [Zfc hk, List.length_take, Nat.min_eq_left hi]
  generalize Zcu enc (xs.take i) = X at h hl ⊢
  generalize Zcu enc (xs.drop i) = Y at h ⊢
  rw [h, ← hl]
  exact ⟨by simp, by simp⟩
theorem Yaw {α : Type} {enc : α → List Value} {kc : Nat} (hk : ∀ x, (enc x).length = kc) (xs ys : List α) (i : Nat) (hi : i ≤ xs.length) : Zcu enc (xs.take i ++ ys ++ xs.drop i) = (Zcu enc xs).take (i * kc) ++ Zcu enc ys ++ (Zcu enc xs).drop (i * kc) := by
  rw [Zkd, Zkd, (Zmo hk xs i hi).1, (Zmo hk xs i hi).2]
theorem Yax {α : Type} [Inhabited α] {P : Program} {f : FuncId} {enc : α → List Value} {kc : Nat} (hk : ∀ x, (enc x).length = kc) (h0 : 0 < kc) (h1c : ∀ x, ∀ v ∈ enc x, v.oneCell' = true) (hpl : ∀ x, ∀ v ∈ enc x, blk v = none)
    {xs ys : List α} {i : Int} (hi : 0 ≤ i ∧ i ≤ (xs.length : Int)) (hy : 0 < ys.length)
    (hs : ∀ (k c : Nat) (cur : Array Value) (e : TypeId) (w : World) (vb vc : Nat) (cur2 : Array Value) (e2 : TypeId), w.heap[k]? = some (.cells cur e (0, 0)) → 0 < c → xs.length ≤ c → c * kc ≤ cur.size → c ≤ maxLen → (∀ (t : Nat) (v : Value), (Zcu enc xs)[t]? = some v → cur[t]? = some v) →
      vb ≠ k → w.heap[vb]? = some (.cells cur2 e2 (0, 0)) → 0 < vc → ys.length ≤ vc → vc * kc ≤ cur2.size → (∀ (t : Nat) (v : Value), (Zcu enc ys)[t]? = some v → cur2[t]? = some v) →
      Calls P f #[.slice (some ⟨k, 0, none⟩) xs.length c, .int .i64 i, .slice (some ⟨vb, 0, none⟩) ys.length vc] w (InsPost w k (xs.length + ys.length) kc (Zcu enc (xs.take i.toNat ++ ys ++ xs.drop i.toNat))))
    (hn : ∀ (A : Option Addr) (w : World) (vb vc : Nat) (cur2 : Array Value) (e2 : TypeId), xs = [] → w.heap[vb]? = some (.cells cur2 e2 (0, 0)) → 0 < vc → ys.length ≤ vc → vc * kc ≤ cur2.size → (∀ (t : Nat) (v : Value), (Zcu enc ys)[t]? = some v → cur2[t]? = some v) →
      Calls P f #[.slice A 0 0, .int .i64 i, .slice (some ⟨vb, 0, none⟩) ys.length vc] w fun q w' => InsPost w w.heap.size ys.length kc (Zcu enc ys) q w')
    (a a2 b : Nat) (hab : a ≠ a2) {ef : Nat → List AV} {ef2 ef3 : Nat → List AV} (hef : ∀ p, p < xs.length → ef p = (enc (at_ xs p)).map .val) (hef2 : ∀ p, p < ys.length → ef2 p = (enc (at_ ys p)).map .val) (hef3 : ∀ p, p < (xs.take i.toNat ++ ys ++ xs.drop i.toNat).length → ef3 p = (enc (at_ (xs.take i.toNat ++ ys ++ xs.drop i.toNat) p)).map .val) :
    Zxi P f [] [.arr a, I i, .arr a2] (Zaf [(a, .arr kc xs.length ef), (a2, .arr kc ys.length ef2)]) false (.arr b) (Zaf [(b, .arr kc (xs.take i.toNat ++ ys ++ xs.drop i.toNat).length ef3)]) := by
  intro B vals hbo hm hr
  have hlz : (xs.take i.toNat ++ ys ++ xs.drop i.toNat).length = xs.length + ys.length := by simp; omega
  obtain ⟨hl, hr⟩ := hr
  match vals, hl with
  | [v0, v1, v2], _ =>
  have hv0 : v0 = B.κ0 a := (hr 0 _ _ rfl rfl).arr_of
  have hv1 : v1 = .int .i64 i := (hr 1 _ _ rfl rfl).val_of
  have hv2 : v2 = B.κ0 a2 := (hr 2 _ _ rfl rfl).arr_of
  subst hv0 hv1 hv2
  have hla : Zaf [(a, Ob.arr kc xs.length ef), (a2, Ob.arr kc ys.length ef2)] a = some (.arr kc xs.length ef) := by simp [Zaf]
  have hna : Zaf [(a, Ob.arr kc xs.length ef), (a2, Ob.arr kc ys.length ef2)] a ≠ none := by rw [hla]; simp
  have hone : ∀ {j : Nat} {o : Ob}, Zaf [(b, Ob.arr kc (xs.take i.toNat ++ ys ++ xs.drop i.toNat).length ef3)] j = some o → j = b ∧ o = .arr kc (xs.take i.toNat ++ ys ++ xs.drop i.toNat).length ef3 := fun h => by
    have := Zdb h
    simpa using this
  have hfls : ∀ j, B.bo j = false := fun j => by rw [hbo]; rfl
  -- the elements that are put in
  have hla2 : Zaf [(a, Ob.arr kc xs.length ef), (a2, Ob.arr kc ys.length ef2)] a2 = some (.arr kc ys.length ef2) := by
    have : Nat.beq a2 a = false := Bool.eq_false_iff.2 fun h => hab (Nat.eq_of_beq_eq_true h).symm
    simp [Zaf, this]
  have hna2 : Zaf [(a, Ob.arr kc xs.length ef), (a2, Ob.arr kc ys.length ef2)] a2 ≠ none := by rw [hla2]; simp
  have ho2 : ArrRel B.w0 (SS B B.κ0 (Zaf [(a, Ob.arr kc xs.length ef), (a2, Ob.arr kc ys.length ef2)]) B.w0) kc ys.length ef2 (B.κ0 a2) := hm.obj a2 _ hla2
  rcases ho2 with ⟨hz2, _⟩ | ⟨vb, cur2, e2, vc, hv2, p0, p1, p2, p3, p4, p5⟩
  · omega
  have hbk2 : Blk (B.κ0 a2) vb := by rw [hv2]; simp [Zcd, blk]; omega
  rw [hv2]
  have hys : ∀ (t : Nat) (v : Value), (Zcu enc ys)[t]? = some v → cur2[t]? = some v := fun t v ht => by
    have htl : t < ys.length * kc := by have := (List.getElem?_eq_some_iff.1 ht).1; rwa [Zfc hk] at this
    have hp : t / kc < ys.length := Nat.div_lt_of_lt_mul (by rw [Nat.mul_comm]; exact htl)
    have hq : t % kc < kc := Nat.mod_lt _ h0
    have et : t = t / kc * kc + t % kc := by rw [Nat.mul_comm]; exact (Nat.div_add_mod t kc).symm
    rw [et, Zjf hk ys _ _ hp hq] at ht
    obtain ⟨x, hx1, hx2, hx3⟩ := (p5 _ hp).2 (t % kc) (.val v) (by rw [hef2 _ hp, List.getElem?_map, ht]; rfl)
    have : x = v := by cases hx3; rfl
    rw [this] at hx1
    rw [et]; exact hx1
  have hpost : ∀ (w' : World) (k : Nat) (q : Ending), InsPost B.w0 k (xs.length + ys.length) kc (Zcu enc (xs.take i.toNat ++ ys ++ xs.drop i.toNat)) q w' → (k = B.w0.heap.size ∨ (k < B.w0.heap.size ∧ Blk (B.κ0 a) k)) →
      ∃ v κ', q = .returned v ∧ MS B κ' (Zaf [(b, .arr kc (xs.take i.toNat ++ ys ++ xs.drop i.toNat).length ef3)]) w' ∧ Rel κ' w' (SR false B κ' (Zaf [(b, .arr kc (xs.take i.toNat ++ ys ++ xs.drop i.toNat).length ef3)]) w') (.arr b) v := by
    intro w' k q hp hkk
    obtain ⟨k', c', cur', e, rfl, r1, r2, r3, r4, r5, r6, r7, r8, r9⟩ := hp.ex
    have hBv : ∀ b', Blk (Value.slice (some ⟨k', 0, none⟩) (xs.length + ys.length) c') b' ↔ b' = k' := fun b' => by
      rw [Zcd]
      simp only [blk]
      rw [if_neg (by omega)]
      simp only [Option.some.injEq]
      exact ⟨fun h => h.symm, fun h => h.symm⟩
    have hN : B.N k' := by
      rcases r1 with e1 | e1
      · rcases hkk with e2 | ⟨e2, e3⟩
        · exact .inl (by omega)
        · subst e1
          rcases (hm.ownb a k' hna e3).2 with h | h
          · exact h
          · rw [hfls] at h; cases h
      · exact .inl (by omega)
    have hM : ∀ z, z < B.w0.heap.size → ¬ B.M z → z ≠ k' := fun z hz hzm e1 => by
      subst e1
      rcases hN with h | h
      · omega
      · exact hzm (.inr h)
    refine ⟨_, Zfz B.κ0 b (.slice (some ⟨k', 0, none⟩) (xs.length + ys.length) c'), rfl, ⟨⟨hp.os, hp.tape, hp.output, hp.size, fun z hz hzm => r3 z hz (hM z hz hzm)⟩, fun j o hj => ?_, fun j b' hj hb' => ?_, fun j j2 b' h1 h2 _ _ => ?_, fun j hj => ?_, hm.glob⟩, .arr _ _ _ _ (Zbf _ _ _)⟩
    · obtain ⟨rfl, rfl⟩ := hone hj
      rw [Zbf]
      refine .inr ⟨k', cur', e, c', by rw [hlz], r5, r4, by omega, r7, r8, fun p hp2 => ⟨by rw [hef3 p hp2, List.length_map, hk], fun z u hu => ?_⟩⟩
      rw [hef3 p hp2, List.getElem?_map, Option.map_eq_some_iff] at hu
      obtain ⟨y, hy1, rfl⟩ := hu
      have hz : z < kc := by have := (List.getElem?_eq_some_iff.1 hy1).1; rwa [hk] at this
      refine ⟨y, r9 _ _ (by rw [Zjf hk _ _ _ hp2 hz]; exact hy1), h1c _ y (List.mem_of_getElem? hy1), .val _⟩
    · have hjb : j = b := by
        cases e1 : Zaf [(b, Ob.arr kc (xs.take i.toNat ++ ys ++ xs.drop i.toNat).length ef3)] j with
        | none => exact absurd e1 hj
        | some o => exact (hone e1).1
      subst hjb
      rw [Zbf, hBv] at hb'
      subst hb'
      exact ⟨r2, .inl hN⟩
    · have hjb : ∀ j, Zaf [(b, Ob.arr kc (xs.take i.toNat ++ ys ++ xs.drop i.toNat).length ef3)] j ≠ none → j = b := fun j hj => by
        cases e1 : Zaf [(b, Ob.arr kc (xs.take i.toNat ++ ys ++ xs.drop i.toNat).length ef3)] j with
        | none => exact absurd e1 hj
        | some o => exact (hone e1).1
      rw [hjb j h1, hjb j2 h2]
    · rw [hfls] at hj; cases hj
  have ho : ArrRel B.w0 (SS B B.κ0 (Zaf [(a, Ob.arr kc xs.length ef), (a2, Ob.arr kc ys.length ef2)]) B.w0) kc xs.length ef (B.κ0 a) := hm.obj a _ hla
  rcases ho with ⟨hz, A, e⟩ | ⟨k, cur, e, c, hv, q0, q1, q2, q3, q4, q5⟩
  · have hx : xs = [] := List.eq_nil_of_length_eq_zero hz
    rw [e]
    refine (hn A B.w0 vb vc cur2 e2 hx p1 p0 p2 p3 hys).mono ?_
    intro q w' h
    have : Zcu enc ys = Zcu enc (xs.take i.toNat ++ ys ++ xs.drop i.toNat) := by subst hx; simp
    rw [this] at h
    exact hpost w' _ q (by rw [hz, Nat.zero_add]; exact h) (.inl rfl)
  · have hbk : Blk (B.κ0 a) k := by rw [hv]; simp [Zcd, blk]; omega
    have hkw : k < B.w0.heap.size := (hm.ownb a k hna hbk).1
    rw [hv]
    refine (hs k c cur e B.w0 vb vc cur2 e2 q1 q0 q2 q3 q4 (fun t v ht => ?_) (fun e1 => hab (hm.inj a a2 k hna hna2 hbk (by rw [← e1]; exact hbk2))) p1 p0 p2 p3 hys).mono fun q w' h => hpost w' k q h (.inr ⟨hkw, hbk⟩)
    have htl : t < xs.length * kc := by have := (List.getElem?_eq_some_iff.1 ht).1; rwa [Zfc hk] at this
    have hp : t / kc < xs.length := Nat.div_lt_of_lt_mul (by rw [Nat.mul_comm]; exact htl)
    have hq : t % kc < kc := Nat.mod_lt _ h0
    have et : t = t / kc * kc + t % kc := by rw [Nat.mul_comm]; exact (Nat.div_add_mod t kc).symm
    rw [et, Zjf hk xs _ _ hp hq] at ht
    obtain ⟨x, hx1, hx2, hx3⟩ := (q5 _ hp).2 (t % kc) (.val v) (by rw [hef _ hp, List.getElem?_map, ht]; rfl)
    have : x = v := by cases hx3; rfl
    rw [this] at hx1
    rw [et]; exact hx1
end Go.Proofs.YtdinloamhmdgjaaGreatDoor.Ax
