/- Valid points. No conditions. -/
import Derived.Test.YtjfopofcbopfjaaTypA
import Derived.Test.YtjfopofcbopfjaaMem2
import Derived.Test.YtjfopofcbopfjaaIn
namespace Go.Proofs.Ytjfopofcbopfjaa
open Go.RowKit
set_option linter.unusedVariables false

def okP (p : Point) : Bool := inR p.X 0 4095 && (inR p.Y 0 4095 && inR p.T 0 3600000)

theorem isCoord_any (a : Int) (w : World) :
    Calls Try.prog 65 #[.int .i64 a] w fun e w' => e = .returned (.bool (inR a 0 4095)) ∧ w = w' := by
  go_enter Try.func65, Try.ntmps65
  go_wp2_with (go_at_call 28; refine (within_any _ _ _ _).mono ?_; rintro e w' ⟨rfl, rfl⟩)
  go_ret
  exact ⟨rfl, rfl⟩

set_option maxHeartbeats 800000 in
theorem l02Point_any (p : Point) (w : World) :
    Calls Try.prog 54 #[.agg #[.int .i64 p.X, .int .i64 p.Y, .int .i64 p.T]] w fun e w' => e = .returned (.bool (okP p)) ∧ Below w.heap.size w w' := by
  by_cases h1 : inR p.X 0 4095 = true
  · by_cases h2 : inR p.Y 0 4095 = true
    · have H := Lib.hid (show okP p = inR p.T 0 3600000 by simp [okP, h1, h2])
      go_enter Try.func54, Try.ntmps54
      go_wp2_with (go_at_call 27; refine (l00In_any _ _ _ _).mono ?_; rintro e w' ⟨rfl, rfl⟩)
      go_ret
      exact ⟨by rw [H.out]; rfl, (Below.refl _ _).alloc (Nat.le_refl _) _⟩
    · have h2 : inR p.Y 0 4095 = false := by simpa using h2
      have H := Lib.hid (show okP p = false by simp [okP, h1, h2])
      go_enter Try.func54, Try.ntmps54
      go_wp2_with (go_at_call 27; refine (l00In_any _ _ _ _).mono ?_; rintro e w' ⟨rfl, rfl⟩)
      go_ret
      exact ⟨by rw [H.out]; rfl, (Below.refl _ _).alloc (Nat.le_refl _) _⟩
  · have h1 : inR p.X 0 4095 = false := by simpa using h1
    have H := Lib.hid (show okP p = false by simp [okP, h1])
    go_enter Try.func54, Try.ntmps54
    go_wp2_with (go_at_call 27; refine (l00In_any _ _ _ _).mono ?_; rintro e w' ⟨rfl, rfl⟩)
    go_ret
    exact ⟨by rw [H.out]; rfl, (Below.refl _ _).alloc (Nat.le_refl _) _⟩

set_option maxHeartbeats 800000 in
theorem validPoint_any (p : Point) (w : World) :
    Calls Try.prog 56 #[.agg #[.int .i64 p.X, .int .i64 p.Y, .int .i64 p.T]] w fun e w' => e = .returned (.bool (okP p)) ∧ Below w.heap.size w w' := by
  by_cases h1 : inR p.X 0 4095 = true
  · by_cases h2 : inR p.Y 0 4095 = true
    · have H := Lib.hid (show okP p = inR p.T 0 3600000 by simp [okP, h1, h2])
      go_enter Try.func56, Try.ntmps56
      go_wp2_with (first | (go_at_call 28; refine (within_any _ _ _ _).mono ?_; rintro e w' ⟨rfl, rfl⟩) | (go_at_call 65; refine (isCoord_any _ _).mono ?_; rintro e w' ⟨rfl, rfl⟩))
      go_ret
      exact ⟨by rw [H.out]; rfl, (Below.refl _ _).alloc (Nat.le_refl _) _⟩
    · have h2 : inR p.Y 0 4095 = false := by simpa using h2
      have H := Lib.hid (show okP p = false by simp [okP, h1, h2])
      go_enter Try.func56, Try.ntmps56
      go_wp2_with (first | (go_at_call 28; refine (within_any _ _ _ _).mono ?_; rintro e w' ⟨rfl, rfl⟩) | (go_at_call 65; refine (isCoord_any _ _).mono ?_; rintro e w' ⟨rfl, rfl⟩))
      go_ret
      exact ⟨by rw [H.out]; rfl, (Below.refl _ _).alloc (Nat.le_refl _) _⟩
  · have h1 : inR p.X 0 4095 = false := by simpa using h1
    have H := Lib.hid (show okP p = false by simp [okP, h1])
    go_enter Try.func56, Try.ntmps56
    go_wp2_with (first | (go_at_call 28; refine (within_any _ _ _ _).mono ?_; rintro e w' ⟨rfl, rfl⟩) | (go_at_call 65; refine (isCoord_any _ _).mono ?_; rintro e w' ⟨rfl, rfl⟩))
    go_ret
    exact ⟨by rw [H.out]; rfl, (Below.refl _ _).alloc (Nat.le_refl _) _⟩

/-- The first k points are valid and follow one another in time. -/
def okTo (xs : List Point) (k : Nat) : Prop := ∀ i p, i < k → xs[i]? = some p → okP p = true ∧ ∀ q, 0 < i → xs[i - 1]? = some q → q.T < p.T
theorem okTo.zero (xs : List Point) : okTo xs 0 := fun i p h => absurd h (Nat.not_lt_zero _)
theorem okTo.first {xs : List Point} {p : Point} (h : xs[0]? = some p) (hp : okP p = true) : okTo xs 1 := fun i q hi hq => by
  obtain rfl : i = 0 := by omega
  rw [h] at hq
  cases hq
  exact ⟨hp, fun _ h0 => absurd h0 (Nat.lt_irrefl _)⟩
theorem okTo.succ {xs : List Point} {j : Nat} {p q : Point} (ho : okTo xs (j + 1)) (h : xs[j + 1]? = some p) (hq : xs[j]? = some q) (hp : okP p = true) (ht : q.T < p.T) : okTo xs (j + 1 + 1) := fun i r hi hr => by
  by_cases h' : i = j + 1
  · subst h'
    rw [h] at hr
    cases hr
    exact ⟨hp, fun q' _ hq' => by rw [Nat.add_sub_cancel, hq] at hq'; cases hq'; exact ht⟩
  · exact ho i r (by omega) hr
open Classical in
/-- Whether a stroke of these points is valid. -/
noncomputable def validS (xs : List Point) : Bool := decide (okTo xs xs.length ∧ 1 ≤ xs.length ∧ xs.length ≤ 60)
theorem validS_iff {xs : List Point} : validS xs = true ↔ okTo xs xs.length ∧ 1 ≤ xs.length ∧ xs.length ≤ 60 := by simp [validS]
theorem validS_bad {xs : List Point} {k : Nat} {p : Point} (h : xs[k]? = some p) (hp : okP p = false) : validS xs = false := by
  rw [← Bool.not_eq_true, validS_iff]
  rintro ⟨ho, _⟩
  have := (ho k p (List.getElem?_eq_some_iff.1 h).1 h).1
  rw [hp] at this
  cases this
theorem validS_late {xs : List Point} {j : Nat} {p q : Point} (h : xs[j + 1]? = some p) (hq : xs[j]? = some q) (ht : p.T ≤ q.T) : validS xs = false := by
  rw [← Bool.not_eq_true, validS_iff]
  rintro ⟨ho, _⟩
  have := (ho (j + 1) p (List.getElem?_eq_some_iff.1 h).1 h).2 q (by omega) hq
  omega
theorem validS_end {xs : List Point} (h : okTo xs xs.length) : validS xs = inR xs.length 1 60 := by
  rw [Bool.eq_iff_iff, validS_iff, inR_iff]
  constructor
  · rintro ⟨_, h1, h2⟩; omega
  · rintro ⟨h1, h2⟩; exact ⟨h, by omega, by omega⟩
end Go.Proofs.Ytjfopofcbopfjaa
