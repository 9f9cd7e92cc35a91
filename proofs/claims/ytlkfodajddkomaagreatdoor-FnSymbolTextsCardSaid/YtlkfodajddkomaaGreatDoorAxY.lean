/- The abstract run: branches that meet again. Plain lemmas on the model. No conditions. -/
import Derived.Test.YtlkfodajddkomaaGreatDoorAxO
namespace Go.Proofs.YtlkfodajddkomaaGreatDoor.Ax
open Go.RowKit
set_option linter.unusedVariables false
set_option linter.unusedSimpArgs false
section
variable {P : Program} {B : Base} {nt : Nat} {σ : St}
theorem aw_cut {Q : Exit → Act → World → Prop} {x y : Code} (J : St → Prop) (h1 : AW P B nt x σ (Exit.then (fun a w => ∃ τ, J τ ∧ Sim B nt τ a w) Q)) (h2 : ∀ τ, J τ → AW P B nt y τ Q) : AW P B nt (.seq x y) σ Q :=
  aw_seq fun a w hs => wp_mono (h1 a w hs) fun e a w hq => by
    cases e <;> first | exact hq | exact (fun ⟨τ, hj, ht⟩ => h2 τ hj a w ht : (∃ τ, J τ ∧ Sim B nt τ a w) → _) hq
theorem ae_cut {Q : Exit → Act → World → Prop} {J : St → Prop} (h : J σ) : AE B nt .normal σ (Exit.then (fun a w => ∃ τ, J τ ∧ Sim B nt τ a w) Q) := fun a w hs => ⟨σ, h, hs⟩
variable {lent : List Nat} {R : Type} {Q : R → Base → Exit → Act → World → Prop} {Φ : R → Prop}
def CutF {X : Type} (Φ : R → Prop) (inv : X → Prop) : R ⊕ X → Prop
  | .inl r => Φ r
  | .inr y => inv y
theorem x_cut {X : Type} {x y : Code} (S : X → St) (inv : X → Prop) (h1 : XW P lent nt x σ (LoopQ nt S Q) (CutF Φ inv)) (h2 : ∀ z, inv z → XW P lent nt y (S z) Q Φ) : XW P lent nt (.seq x y) σ Q Φ := by
  obtain ⟨r, hr, h1⟩ := h1
  cases r with
  | inl r => exact ⟨r, hr, fun B hB => aw_seq fun a w hs => wp_mono (h1 B hB a w hs) fun e a w hq => by cases e <;> first | exact hq | exact (show False from hq).elim⟩
  | inr z =>
    obtain ⟨r, hr2, h2⟩ := h2 z hr
    exact ⟨r, hr2, fun B hB => aw_seq fun a w hs => wp_mono (h1 B hB a w hs) fun e a w hq => by cases e <;> first | exact h2 B hB a w hq | exact (show False from hq).elim⟩
theorem xe_cut {X : Type} {S : X → St} {inv : X → Prop} (y : X) (hs : σ = S y) (hi : inv y) : XE lent nt .normal σ (LoopQ nt S Q) (CutF Φ inv) :=
  ⟨.inr y, hi, fun B hB a w h => by subst hs; exact h⟩
theorem xe_cut_exit {X : Type} {S : X → St} {inv : X → Prop} {id : Nat} (h : XE lent nt (.exit id) σ Q Φ) : XE lent nt (.exit id) σ (LoopQ nt S Q) (CutF Φ inv) := by
  obtain ⟨r, h1, h2⟩ := h; exact ⟨.inl r, h1, fun B hB => h2 B hB⟩
theorem xe_cut_ret {X : Type} {S : X → St} {inv : X → Prop} (h : XE lent nt .ret σ Q Φ) : XE lent nt .ret σ (LoopQ nt S Q) (CutF Φ inv) := by
  obtain ⟨r, h1, h2⟩ := h; exact ⟨.inl r, h1, fun B hB => h2 B hB⟩
end
end Go.Proofs.YtlkfodajddkomaaGreatDoor.Ax
