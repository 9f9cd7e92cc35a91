/- slices.Grow of nil, as the library's Concat calls it: an array of the call's own with no elements. Plain lemmas on the model. No conditions. -/
import Derived.Test.YtapmeemeciigdaaGreatDoorAxS
import Derived.Shelf.Spec.SlicesGrow
namespace Go.Proofs.YtapmeemeciigdaaGreatDoor.Ax
open Go.RowKit
set_option linter.unusedVariables false
set_option linter.unusedSimpArgs false
theorem grow_callOK {P : Program} {f : FuncId} {kc : Nat} (i : Nat) (n : Nat) (h0 : ∀ w, Calls P f #[.slice none 0 0, .int .i64 (0 : Nat)] w fun e w' => e = .returned (.slice none 0 0) ∧ w' = w)
    (h1 : ∀ w, 0 < n → Calls P f #[.slice none 0 0, .int .i64 n] w fun e w' => ∃ (c : Nat) (cs : Array Value) (ty : TypeId), e = .returned (.slice (some ⟨w.heap.size, 0, none⟩) 0 c) ∧ w' = w.drew.alloc (.cells cs ty) ∧ 0 < c ∧ c * kc ≤ cs.size ∧ c ≤ maxLen)
    (g : Nat → List AV) : CallOK P f [nilA, .val (.int .i64 n)] noOb true (.arr i) (lookO [(i, .arr kc 0 g)]) := by
  intro B vals hbo hm hr
  obtain ⟨v, m, rfl⟩ : ∃ v m, vals = [v, m] := by
    have := hr.1
    match vals, this with
    | [v, m], _ => exact ⟨v, m, rfl⟩
  have hv : v = .slice none 0 0 := (hr.2 0 _ _ rfl rfl).val_of
  have hmv : m = .int .i64 n := (hr.2 1 _ _ rfl rfl).val_of
  subst hv; subst hmv
  have hi : lookO [(i, Ob.arr kc 0 g)] i = some (.arr kc 0 g) := by simp [lookO]
  have hoth : ∀ {j : Nat}, j ≠ i → lookO [(i, Ob.arr kc 0 g)] j ≠ none → lookO [(i, Ob.arr kc 0 g)] j = noOb j := fun {j} hj h => by
    obtain ⟨o, ho⟩ := Option.ne_none_iff_exists'.1 h
    have := lookO_mem ho
    simp only [List.mem_cons, List.not_mem_nil, or_false, Prod.mk.injEq] at this
    exact absurd this.1 hj
  have hbi : B.bo i = false := by rw [hbo]; rfl
  rcases Nat.eq_zero_or_pos n with hn | hn
  · subst hn
    refine (h0 B.w0).mono ?_
    rintro e w' ⟨rfl, rfl⟩
    have hp := MS.put (ob' := lookO [(i, Ob.arr kc 0 g)]) (w' := B.w0) hm i (.arr kc 0 g) (.slice none 0 0) hi (fun j hj h => hoth hj h) (fun h => absurd rfl h)
      (fun b hb => by rw [Blk_slice] at hb; simp [blk] at hb) rfl rfl rfl (Nat.le_refl _) (fun _ _ _ => rfl)
      (fun _ j o hj hjo => by have h2 := hoth hj (by rw [hjo]; simp); rw [hjo] at h2; cases h2) (fun h => by rw [hbi] at h; cases h) (fun _ => .inl ⟨rfl, none, rfl⟩)
    exact ⟨_, _, rfl, hp.1, .arr _ _ _ _ (updK_same _ _ _)⟩
  · refine (h1 B.w0 hn).mono ?_
    rintro e w' ⟨c, cs, ty, rfl, rfl, hc0, hcs, hcm⟩
    have hBv : ∀ b', Blk (Value.slice (some ⟨B.w0.heap.size, 0, none⟩) 0 c) b' ↔ b' = B.w0.heap.size := fun b' => by
      rw [Blk_slice]
      simp only [blk]
      rw [if_neg (by omega)]
      simp only [Option.some.injEq]
      exact ⟨fun h => h.symm, fun h => h.symm⟩
    have hheap : (B.w0.drew.alloc (.cells cs ty)).heap = B.w0.heap.push (.cells cs ty (0, 0)) := rfl
    have hp := MS.put (ob' := lookO [(i, Ob.arr kc 0 g)]) (w' := B.w0.drew.alloc (.cells cs ty)) hm i (.arr kc 0 g) (.slice (some ⟨B.w0.heap.size, 0, none⟩) 0 c) hi (fun j hj h => hoth hj h) (fun h => absurd rfl h)
      (fun b hb => by rw [hBv] at hb; subst hb; exact ⟨.inl rfl, by rw [hheap, Array.size_push]; omega⟩) rfl rfl rfl (by rw [hheap, Array.size_push]; omega)
      (fun b hb _ => by rw [hheap, Array.getElem?_push, if_neg (by omega)])
      (fun _ j o hj hjo => by have h2 := hoth hj (by rw [hjo]; simp); rw [hjo] at h2; cases h2) (fun h => by rw [hbi] at h; cases h)
      (fun _ => .inr ⟨B.w0.heap.size, cs, ty, c, rfl, hc0, by rw [hheap, Array.getElem?_push, if_pos rfl], Nat.zero_le _, hcs, hcm, fun i hi => absurd hi (Nat.not_lt_zero _)⟩)
    exact ⟨_, _, rfl, hp.1, .arr _ _ _ _ (updK_same _ _ _)⟩
end Go.Proofs.YtapmeemeciigdaaGreatDoor.Ax
