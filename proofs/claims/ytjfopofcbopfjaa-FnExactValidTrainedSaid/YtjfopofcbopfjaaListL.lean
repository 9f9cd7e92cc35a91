/- Plain lemmas on lists. No conditions. -/
import Derived.Test.YtjfopofcbopfjaaMem
namespace Go.Proofs.Ytjfopofcbopfjaa
set_option linter.unusedVariables false

/-- The index of the first element that meets p, or -1. -/
def firstAt {α : Type} (p : α → Bool) (xs : List α) : Int := match xs.findIdx? p with
  | some i => i
  | none => -1
theorem firstAt_hit {α : Type} {p : α → Bool} {xs : List α} {k : Nat} {x : α} (hx : xs[k]? = some x) (hp : p x = true) (hn : ∀ i y, i < k → xs[i]? = some y → p y = false) : firstAt p xs = k := by
  have h : xs.findIdx? p = some k := by
    rw [List.findIdx?_eq_some_iff_getElem]
    obtain ⟨hk, rfl⟩ := List.getElem?_eq_some_iff.1 hx
    exact ⟨hk, hp, fun j hj => by rw [hn j _ hj (List.getElem?_eq_getElem (by omega))]; decide⟩
  simp [firstAt, h]
theorem firstAt_none {α : Type} {p : α → Bool} {xs : List α} (hn : ∀ i y, i < xs.length → xs[i]? = some y → p y = false) : firstAt p xs = -1 := by
  have h : xs.findIdx? p = none := by
    rw [List.findIdx?_eq_none_iff]
    intro x hx
    obtain ⟨i, hi, rfl⟩ := List.getElem_of_mem hx
    rw [hn i _ hi (List.getElem?_eq_getElem hi)]
  simp [firstAt, h]
theorem firstAt_any {α : Type} (p : α → Bool) (xs : List α) : decide (0 ≤ firstAt p xs) = xs.any p := by
  unfold firstAt
  cases h : xs.findIdx? p with
  | none =>
    have h0 : xs.any p = false := by
      rw [List.any_eq_false]
      intro x hx
      rw [List.findIdx?_eq_none_iff.1 h x hx]
      decide
    rw [h0]
    decide
  | some i =>
    have h0 : xs.any p = true := by
      obtain ⟨hi, hp, _⟩ := List.findIdx?_eq_some_iff_getElem.1 h
      rw [List.any_eq_true]
      exact ⟨_, List.getElem_mem hi, hp⟩
    rw [h0]
    simp
theorem firstAt_lt {α : Type} (p : α → Bool) (xs : List α) : -1 ≤ firstAt p xs := by
  unfold firstAt
  split <;> omega
theorem all_end {α : Type} {p : α → Bool} {xs : List α} (hn : ∀ i y, i < xs.length → xs[i]? = some y → p y = true) : xs.all p = true := by
  rw [List.all_eq_true]
  intro x hx
  obtain ⟨i, hi, rfl⟩ := List.getElem_of_mem hx
  exact hn i _ hi (List.getElem?_eq_getElem hi)
theorem all_bad {α : Type} {p : α → Bool} {xs : List α} {k : Nat} {x : α} (hx : xs[k]? = some x) (hp : p x = false) : xs.all p = false := by
  rw [List.all_eq_false]
  obtain ⟨hk, rfl⟩ := List.getElem?_eq_some_iff.1 hx
  exact ⟨_, List.getElem_mem hk, by rw [hp]; decide⟩
theorem upto_step {α : Type} {P : α → Prop} {xs : List α} {k : Nat} {x : α} (h : ∀ i y, i < k → xs[i]? = some y → P y) (hx : xs[k]? = some x) (hp : P x) : ∀ i y, i < k + 1 → xs[i]? = some y → P y := by
  intro i y hi hy
  by_cases e : i = k
  · subst e; rw [hx] at hy; cases hy; exact hp
  · exact h i y (by omega) hy
theorem upto_zero {α : Type} {P : α → Prop} {xs : List α} : ∀ i y, i < 0 → xs[i]? = some y → P y := fun i y hi => absurd hi (Nat.not_lt_zero _)
/-- Whether r holds of the elements at each index, and the lengths are the same. -/
def eqAll {α β : Type} (r : α → β → Bool) : List α → List β → Bool
  | [], [] => true
  | x :: xs, y :: ys => r x y && eqAll r xs ys
  | _, _ => false
theorem eqAll_len {α β : Type} {r : α → β → Bool} : ∀ {xs : List α} {ys : List β}, xs.length ≠ ys.length → eqAll r xs ys = false
  | [], [], h => absurd rfl h
  | [], _ :: _, _ => rfl
  | _ :: _, [], _ => rfl
  | x :: xs, y :: ys, h => by
    have : xs.length ≠ ys.length := fun e => h (by simp [e])
    simp [eqAll, eqAll_len this]
theorem eqAll_bad {α β : Type} {r : α → β → Bool} : ∀ {xs : List α} {ys : List β} {k : Nat} {x : α} {y : β}, xs[k]? = some x → ys[k]? = some y → r x y = false → eqAll r xs ys = false
  | [], _, _, _, _, h, _, _ => by simp at h
  | _ :: _, [], _, _, _, _, h, _ => by simp at h
  | a :: xs, b :: ys, 0, x, y, h1, h2, h => by simp at h1 h2; subst h1 h2; simp [eqAll, h]
  | a :: xs, b :: ys, k + 1, x, y, h1, h2, h => by
    have := eqAll_bad (xs := xs) (ys := ys) (by simpa using h1) (by simpa using h2) h
    simp [eqAll, this]
theorem eqAll_end {α β : Type} {r : α → β → Bool} : ∀ {xs : List α} {ys : List β}, xs.length = ys.length → (∀ i x y, i < xs.length → xs[i]? = some x → ys[i]? = some y → r x y = true) → eqAll r xs ys = true
  | [], [], _, _ => rfl
  | [], _ :: _, h, _ => by simp at h
  | _ :: _, [], h, _ => by simp at h
  | a :: xs, b :: ys, h, hr => by
    have h1 := hr 0 a b (by simp) rfl rfl
    have h2 := eqAll_end (xs := xs) (ys := ys) (by simpa using h) (fun i x y hi hx hy => hr (i + 1) x y (by simpa using hi) (by simpa using hx) (by simpa using hy))
    simp [eqAll, h1, h2]
end Go.Proofs.Ytjfopofcbopfjaa
