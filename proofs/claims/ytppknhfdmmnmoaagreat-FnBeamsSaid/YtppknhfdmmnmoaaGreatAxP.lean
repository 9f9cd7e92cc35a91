/- The abstract run: contracts under other names of their objects. Plain lemmas. No conditions. -/
import Derived.Test.YtppknhfdmmnmoaaGreatAxO
namespace Go.Proofs.YtppknhfdmmnmoaaGreat.Ax
open Go.RowKit
set_option linter.unusedVariables false
set_option linter.unusedSimpArgs false

/-- Two names change places. -/
def swp (a b i : Nat) : Nat := bif Nat.beq i a then b else bif Nat.beq i b then a else i
theorem swp_swp (a b i : Nat) : swp a b (swp a b i) = i := by
  unfold swp
  by_cases h1 : i = a
  · subst h1
    by_cases h2 : b = i
    · subst h2; simp
    · have : Nat.beq b i = false := Bool.eq_false_iff.2 fun h => h2 (Nat.eq_of_beq_eq_true h)
      simp [this]
  · have e1 : Nat.beq i a = false := Bool.eq_false_iff.2 fun h => h1 (Nat.eq_of_beq_eq_true h)
    by_cases h2 : i = b
    · subst h2; simp [e1]
    · have e2 : Nat.beq i b = false := Bool.eq_false_iff.2 fun h => h2 (Nat.eq_of_beq_eq_true h)
      simp [e1, e2]
theorem swp_inj {a b i j : Nat} (h : swp a b i = swp a b j) : i = j := by rw [← swp_swp a b i, h, swp_swp]
mutual
theorem AV.ren_ren (a b : Nat) : ∀ x : AV, (x.ren (swp a b)).ren (swp a b) = x
  | .agg cs => by simp only [AV.ren]; rw [AV.renL_renL a b cs]
  | .tup cs => by simp only [AV.ren]; rw [AV.renL_renL a b cs]
  | .fn f cs => by simp only [AV.ren]; rw [AV.renL_renL a b cs]
  | .ref i o => by simp only [AV.ren]; rw [swp_swp]
  | .elt i s k j => by simp only [AV.ren]; rw [swp_swp]
  | .arr i => by simp only [AV.ren]; rw [swp_swp]
  | .row i p => by simp only [AV.ren]; rw [swp_swp]
  | .relt i p s k j => by simp only [AV.ren]; rw [swp_swp]
  | .mapr i => by simp only [AV.ren]; rw [swp_swp]
  | .win i o n => by simp only [AV.ren]; rw [swp_swp]
  | .any => rfl
  | .val v => rfl
  | .sl fr sz n f => rfl
  | .e0 => rfl
  | .ptr fr cs => rfl
  | .nilq n => rfl
theorem AV.renL_renL (a b : Nat) : ∀ cs : List AV, AV.renL (swp a b) (AV.renL (swp a b) cs) = cs
  | [] => rfl
  | x :: r => by simp only [AV.renL]; rw [AV.ren_ren a b x, AV.renL_renL a b r]
end
def mapO (a b : Nat) (L : List (Nat × Ob)) : List (Nat × Ob) := L.map fun p => (swp a b p.1, p.2)
theorem lookO_mapO (a b : Nat) : ∀ (L : List (Nat × Ob)) (i : Nat), lookO (mapO a b L) i = lookO L (swp a b i)
  | [], i => rfl
  | (j, o) :: r, i => by
    simp only [mapO, List.map_cons, lookO]
    have e : Nat.beq i (swp a b j) = Nat.beq (swp a b i) j := by
      rw [Bool.eq_iff_iff]
      simp only [Nat.beq_eq]
      constructor
      · rintro rfl; exact swp_swp a b j
      · rintro rfl; exact (swp_swp a b i).symm
    rw [e]
    have := lookO_mapO a b r i
    unfold mapO at this
    rw [this]
def noIds (L : List (Nat × Ob)) : Bool := L.all fun p => (Ob.ids p.2).isEmpty
theorem noIds_at {L : List (Nat × Ob)} (h : noIds L = true) {i : Nat} {o : Ob} (ho : lookO L i = some o) : o.ids = [] := by
  have := List.all_eq_true.1 h (i, o) (lookO_mem ho)
  simpa using this
section
variable {B : Base} {κ : Nat → Value} {w : World} (a b : Nat)
def swB (B : Base) : Base := ⟨B.w0, fun i => B.bo (swp a b i), fun i => B.κ0 (swp a b i), B.A, B.F⟩
theorem swB_M (k : Nat) : (swB a b B).M k ↔ B.M k := by
  constructor
  · rintro (⟨i, h1, h2⟩ | h); exact .inl ⟨swp a b i, h1, h2⟩; exact .inr h
  · rintro (⟨i, h1, h2⟩ | h)
    rotate_left
    · exact .inr h
    refine .inl ⟨swp a b i, ?_, ?_⟩
    · show B.bo (swp a b (swp a b i)) = true
      rw [swp_swp]; exact h1
    · show Blk (B.κ0 (swp a b (swp a b i))) k
      rw [swp_swp]; exact h2
theorem swB_kept {w' : World} : Kept (swB a b B).w0 (swB a b B).M w' ↔ Kept B.w0 B.M w' :=
  ⟨fun h => ⟨h.os, h.tape, h.output, h.size, fun k h1 h2 => h.block k h1 fun h3 => h2 ((swB_M a b k).1 h3)⟩, fun h => ⟨h.os, h.tape, h.output, h.size, fun k h1 h2 => h.block k h1 fun h3 => h2 ((swB_M a b k).2 h3)⟩⟩
theorem swS {L : List (Nat × Ob)} {t : Bool} {k : Nat} (h : SS B κ (lookO (mapO a b L)) w t k) : SS (swB a b B) (fun i => κ (swp a b i)) (lookO L) w t k :=
  ⟨h.1, h.2.1, fun i hi => by
    have := h.2.2 (swp a b i) (by rw [lookO_mapO, swp_swp]; exact hi)
    exact this⟩
theorem swS2 {L : List (Nat × Ob)} {t : Bool} {k : Nat} (h : SS (swB a b B) κ (lookO L) w t k) : SS B (fun i => κ (swp a b i)) (lookO (mapO a b L)) w t k :=
  ⟨h.1, h.2.1, fun i hi => by
    rw [lookO_mapO] at hi
    exact h.2.2 (swp a b i) hi⟩
theorem MS.swap {L : List (Nat × Ob)} (hL : noIds L = true) (h : MS B κ (lookO (mapO a b L)) w) : MS (swB a b B) (fun i => κ (swp a b i)) (lookO L) w := by
  have hl : ∀ i, lookO L i ≠ none → lookO (mapO a b L) (swp a b i) ≠ none := fun i hi => by rw [lookO_mapO, swp_swp]; exact hi
  refine ⟨(swB_kept a b).2 h.kept, fun i o ho => ?_, fun i k hi hk => h.ownb _ k (hl i hi) hk, fun i j k hi hj h1 h2 => swp_inj (h.inj _ _ k (hl i hi) (hl j hj) h1 h2), fun i hi => h.lent _ hi, fun w' hk => h.glob w' ((swB_kept a b).1 hk)⟩
  have := h.obj (swp a b i) o (by rw [lookO_mapO, swp_swp]; exact ho)
  exact this.toS (fun t k hk => swS a b hk) (noIds_at hL ho)
theorem MS.swap2 {L : List (Nat × Ob)} (hL : noIds L = true) (h : MS (swB a b B) κ (lookO L) w) : MS B (fun i => κ (swp a b i)) (lookO (mapO a b L)) w := by
  have hl : ∀ i, lookO (mapO a b L) i ≠ none → lookO L (swp a b i) ≠ none := fun i hi => by rw [← lookO_mapO]; exact hi
  refine ⟨(swB_kept a b).1 h.kept, fun i o ho => ?_, fun i k hi hk => ?_, fun i j k hi hj h1 h2 => swp_inj (h.inj _ _ k (hl i hi) (hl j hj) h1 h2), fun i hi => ?_, fun w' hk => h.glob w' ((swB_kept a b).2 hk)⟩
  · rw [lookO_mapO] at ho
    have := h.obj (swp a b i) o ho
    exact this.toS (fun t k hk => swS2 a b hk) (noIds_at hL ho)
  · have := h.ownb _ k (hl i hi) hk
    refine ⟨this.1, this.2.imp id fun h1 => ?_⟩
    have h1' : B.bo (swp a b (swp a b i)) = true := h1
    rwa [swp_swp] at h1'
  · have h1 : (swB a b B).bo (swp a b i) = true := by
      show B.bo (swp a b (swp a b i)) = true
      rw [swp_swp]; exact hi
    have := h.lent _ h1
    show κ (swp a b i) = _
    rw [this]
    show B.κ0 (swp a b (swp a b i)) = _
    rw [swp_swp]
end
/-- The contract under other names of its objects. -/
theorem call_swap (a b : Nat) {P : Program} {f : FuncId} {args : List AV} {pre post : List (Nat × Ob)} {fr : Bool} {res : AV} (h1 : (noIds pre && noIds post) = true) (h : CallOK P f args (lookO pre) fr res (lookO post)) :
    CallOK P f (args.map (AV.ren (swp a b))) (lookO (mapO a b pre)) fr (res.ren (swp a b)) (lookO (mapO a b post)) := by
  simp only [Bool.and_eq_true] at h1
  intro B vals hbo hm hr
  have hbo' : ∀ i, (swB a b B).bo i = (lookO pre i).isSome := fun i => by
    show B.bo (swp a b i) = _
    rw [hbo, lookO_mapO, swp_swp]
  have hr' : RelL (swB a b B).κ0 (swB a b B).w0 (fun _ k => k < (swB a b B).w0.heap.size ∧ (swB a b B).A k ∧ ∀ i, lookO pre i ≠ none → ¬ Blk ((swB a b B).κ0 i) k) args vals := by
    refine ⟨by simpa using hr.1, fun j u x hj hx => ?_⟩
    have := hr.2 j (u.ren (swp a b)) x (by simp [hj]) hx
    have h2 := Rel.of_ren u x this
    exact h2.keep (fun t k hk => ⟨rfl, hk.1, hk.2.1, fun i hi => hk.2.2 (swp a b i) (by rw [lookO_mapO, swp_swp]; exact hi)⟩) fun _ _ => rfl
  refine (h (swB a b B) vals hbo' (hm.swap a b h1.1) hr').mono fun e w' ⟨v, κ', he, hm', hv⟩ => ?_
  refine ⟨v, fun i => κ' (swp a b i), he, hm'.swap2 a b h1.2, ?_⟩
  have hv' : Rel κ' w' (SR fr (swB a b B) κ' (lookO post) w') ((res.ren (swp a b)).ren (swp a b)) v := by rw [AV.ren_ren]; exact hv
  have h3 := Rel.of_ren (res.ren (swp a b)) v hv'
  exact h3.keep (fun t k hk => ⟨rfl, swS2 a b hk⟩) fun _ _ => rfl
end Go.Proofs.YtppknhfdmmnmoaaGreat.Ax
