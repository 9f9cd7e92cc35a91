/- Tables: an array of nil slices becomes an array of rows, and a new array takes the place of a row. Plain lemmas on the model. No conditions. -/
import Derived.Test.YtblhhmcplocepaaGreatDoorAxO
import Derived.Test.YtblhhmcplocepaaGreatDoorAxP
namespace Go.Proofs.YtblhhmcplocepaaGreatDoor.Ax
open Go.RowKit
set_option linter.unusedVariables false
set_option linter.unusedSimpArgs false
theorem SS.ghost {B : Base} {κ κ' : Nat → Value} {ob ob' : Nat → Option Ob} {w : World} (hblk : ∀ k b, ob' k ≠ none → Blk (κ' k) b → ∃ k0, ob k0 ≠ none ∧ Blk (κ k0) b ∧ (B.bo k = true ∨ B.bo k0 = false)) : ∀ fr b, SS B κ ob w fr b → w.heap[b]? = w.heap[b]? ∧ SS B κ' ob' w fr b :=
  fun fr b hb => ⟨rfl, hb.1, hb.2.1, fun k hk hbk => by obtain ⟨k0, h1, h2, _⟩ := hblk k b hk hbk; exact hb.2.2 k0 h1 h2⟩
theorem MS.ghost {B : Base} {κ κ' : Nat → Value} {ob ob' : Nat → Option Ob} {w : World} (h : MS B κ ob w) (hblk : ∀ k b, ob' k ≠ none → Blk (κ' k) b → ∃ k0, ob k0 ≠ none ∧ Blk (κ k0) b ∧ (B.bo k = true ∨ B.bo k0 = false))
    (hobj : ∀ k o, ob' k = some o → ObRel κ' w (SS B κ' ob' w) o (κ' k)) (hinj : ∀ k k2 b, ob' k ≠ none → ob' k2 ≠ none → Blk (κ' k) b → Blk (κ' k2) b → k = k2) (hlent : ∀ k, B.bo k = true → κ' k = κ k) : MS B κ' ob' w :=
  by
  refine ⟨h.kept, hobj, fun k b hk hb => ?_, hinj, fun k hk => (hlent k hk).trans (h.lent k hk), h.glob⟩
  obtain ⟨k0, h1, h2, h3⟩ := hblk k b hk hb
  have := h.ownb k0 b h1 h2
  refine ⟨this.1, ?_⟩
  rcases h3 with e | e
  · exact .inr e
  · rcases this.2 with q | q
    · exact .inl q
    · rw [e] at q; exact absurd q (by decide)
theorem RelT.empty {w : World} {S : Bool → Nat → Prop} {u : AV} {x : Value} (h : RelT w S u x) (he : Zkl u = true) : ∃ A, x = .slice A 0 0 := by
  cases h with
  | val v =>
    unfold Zkl at he
    split at he
    · rename_i e; cases e
    · rename_i e; cases e; exact ⟨none, rfl⟩
    · cases he
  | e0 A => exact ⟨A, rfl⟩
  | any v => cases he
  | agg => cases he
  | tup => cases he
  | fn => cases he
  | sl => cases he
  | sl0 => cases he
  | ptr => cases he
  | nilq => cases he
section
variable {P : Program} {lent : List Nat} {nt : Nat} {R : Type} {Q : R → Base → Exit → Act → World → Prop} {Φ : R → Prop} {T : List (Nat × AV)} {O : List (Nat × Ob)}
end
mutual
theorem AV.ren_nil : ∀ x : AV, x.ren (Zdp []) = x
  | .agg cs => by simp only [AV.ren]; rw [AV.renL_nil cs]
  | .tup cs => by simp only [AV.ren]; rw [AV.renL_nil cs]
  | .fn f cs => by simp only [AV.ren]; rw [AV.renL_nil cs]
  | .ref i o => rfl
  | .elt i s k j => rfl
  | .arr i => rfl
  | .row i p => rfl
  | .relt i p s k j => rfl
  | .mapr i => rfl
  | .any => rfl
  | .val v => rfl
  | .sl fr sz n f => rfl
  | .e0 => rfl
  | .ptr fr cs => rfl
  | .nilq n => rfl
theorem AV.renL_nil : ∀ cs : List AV, AV.renL (Zdp []) cs = cs
  | [] => rfl
  | x :: r => by simp only [AV.renL]; rw [AV.ren_nil x, AV.renL_nil r]
end
end Go.Proofs.YtblhhmcplocepaaGreatDoor.Ax
