/- Valid trained templates. No conditions. -/
import Derived.Test.YtjfopofcbopfjaaFeatOk
import Derived.Test.YtjfopofcbopfjaaLabel
namespace Go.Proofs.Ytjfopofcbopfjaa
open Go.RowKit
set_option linter.unusedVariables false

def absI (n : Int) : Int := if n < 0 then -n else n
theorem absI_neg {n : Int} (h : n < 0) : absI n = -n := if_pos h
theorem absI_pos {n : Int} (h : 0 ≤ n) : absI n = n := if_neg (by omega)
theorem absI_bd {n a : Int} (h1 : -a ≤ n) (h2 : n ≤ a) : 0 ≤ absI n ∧ absI n ≤ a := by unfold absI; split <;> omega
theorem l09Size_any (n : Int) (w : World) (h0 : -4611686018427387904 ≤ n) (h1 : n ≤ 4611686018427387904) :
    Calls Try.prog 68 #[.int .i64 n] w fun e w' => e = .returned (.int .i64 (absI n)) ∧ w = w' := by
  by_cases h : n < 0
  · have H := Lib.hid (absI_neg h)
    go_enter Try.func68, Try.ntmps68
    go_wp2
    go_ret
    exact ⟨by rw [H.out]; rfl, rfl⟩
  · have H := Lib.hid (absI_pos (Int.not_lt.1 h))
    go_enter Try.func68, Try.ntmps68
    go_wp2
    go_ret
    exact ⟨by rw [H.out]; rfl, rfl⟩

theorem abs_any (n : Int) (w : World) (h0 : -4611686018427387904 ≤ n) (h1 : n ≤ 4611686018427387904) :
    Calls Try.prog 64 #[.int .i64 n] w fun e w' => e = .returned (.int .i64 (absI n)) ∧ w = w' := by
  by_cases h : n < 0
  · have H := Lib.hid (absI_neg h)
    go_enter Try.func64, Try.ntmps64
    go_wp2
    go_ret
    exact ⟨by rw [H.out]; rfl, rfl⟩
  · have H := Lib.hid (absI_pos (Int.not_lt.1 h))
    go_enter Try.func64, Try.ntmps64
    go_wp2
    go_ret
    exact ⟨by rw [H.out]; rfl, rfl⟩

/-- Whether a feature is one that another one may have become. -/
def nearB (a b : Feat) : Bool := decide (a.D = b.D) && (decide (absI (a.X - b.X) ≤ 40) && decide (absI (a.Y - b.Y) ≤ 40))
theorem okF_bd {p : Feat} (h : okF p = true) : (0 ≤ p.X ∧ p.X ≤ 255) ∧ (0 ≤ p.Y ∧ p.Y ≤ 255) ∧ (0 ≤ p.D ∧ p.D ≤ 7) := by
  unfold okF at h
  simp only [Bool.and_eq_true, inR_iff] at h
  exact h

set_option maxHeartbeats 1600000 in
theorem l24Near_any (a b : Feat) (w : World) (ha : okF a = true) (hb : okF b = true) :
    Calls Try.prog 60 #[.agg #[.int .i64 a.X, .int .i64 a.Y, .int .i64 a.D], .agg #[.int .i64 b.X, .int .i64 b.Y, .int .i64 b.D]] w fun e w' => e = .returned (.bool (nearB a b)) ∧ Below w.heap.size w w' := by
  obtain ⟨⟨a1, a2⟩, ⟨a3, a4⟩, _⟩ := okF_bd ha
  obtain ⟨⟨b1, b2⟩, ⟨b3, b4⟩, _⟩ := okF_bd hb
  obtain ⟨x1, x2⟩ := absI_bd (show -255 ≤ a.X - b.X by omega) (show a.X - b.X ≤ 255 by omega)
  obtain ⟨y1, y2⟩ := absI_bd (show -255 ≤ a.Y - b.Y by omega) (show a.Y - b.Y ≤ 255 by omega)
  have B : Below w.heap.size w ((w.alloc (.cells #[.int .i64 a.X, .int .i64 a.Y, .int .i64 a.D] 66)).alloc (.cells #[.int .i64 b.X, .int .i64 b.Y, .int .i64 b.D] 66)) := ((Below.refl _ _).alloc (Nat.le_refl _) _).alloc (by simp) _
  by_cases e1 : a.D = b.D
  rotate_left
  · have H := Lib.hid (show nearB a b = false by unfold nearB; rw [decide_eq_false e1]; rfl)
    have g1 : (a.D == b.D) = false := by rw [beq_eq_false_iff_ne]; exact e1
    clear e1
    go_enter Try.func60, Try.ntmps60
    go_wp2
    go_ret
    exact ⟨by rw [H.out]; rfl, B⟩
  have g1 : (a.D == b.D) = true := by rw [beq_iff_eq]; exact e1
  by_cases e2 : absI (a.X - b.X) ≤ 40
  rotate_left
  · have H := Lib.hid (show nearB a b = false by unfold nearB; rw [decide_eq_false e2, Bool.false_and, Bool.and_false])
    clear e1
    go_enter Try.func60, Try.ntmps60
    go_wp2_with (go_at_call 68; refine (l09Size_any _ _ (by omega) (by omega)).mono ?_; rintro e w' ⟨rfl, rfl⟩)
    go_ret
    exact ⟨by rw [H.out]; first | rfl | (simp; omega), B⟩
  have H := Lib.hid (show nearB a b = decide (absI (a.Y - b.Y) ≤ 40) by unfold nearB; rw [decide_eq_true e1, decide_eq_true e2]; rfl)
  clear e1
  go_enter Try.func60, Try.ntmps60
  go_wp2_with (go_at_call 68; refine (l09Size_any _ _ (by omega) (by omega)).mono ?_; rintro e w' ⟨rfl, rfl⟩)
  go_ret
  exact ⟨by rw [H.out]; first | rfl | (simp; omega), B⟩

set_option maxHeartbeats 1600000 in
theorem near_any (a b : Feat) (w : World) (ha : okF a = true) (hb : okF b = true) :
    Calls Try.prog 50 #[.agg #[.int .i64 a.X, .int .i64 a.Y, .int .i64 a.D], .agg #[.int .i64 b.X, .int .i64 b.Y, .int .i64 b.D]] w fun e w' => e = .returned (.bool (nearB a b)) ∧ Below w.heap.size w w' := by
  obtain ⟨⟨a1, a2⟩, ⟨a3, a4⟩, _⟩ := okF_bd ha
  obtain ⟨⟨b1, b2⟩, ⟨b3, b4⟩, _⟩ := okF_bd hb
  obtain ⟨x1, x2⟩ := absI_bd (show -255 ≤ a.X - b.X by omega) (show a.X - b.X ≤ 255 by omega)
  obtain ⟨y1, y2⟩ := absI_bd (show -255 ≤ a.Y - b.Y by omega) (show a.Y - b.Y ≤ 255 by omega)
  have B : Below w.heap.size w ((w.alloc (.cells #[.int .i64 a.X, .int .i64 a.Y, .int .i64 a.D] 66)).alloc (.cells #[.int .i64 b.X, .int .i64 b.Y, .int .i64 b.D] 66)) := ((Below.refl _ _).alloc (Nat.le_refl _) _).alloc (by simp) _
  by_cases e1 : a.D = b.D
  rotate_left
  · have H := Lib.hid (show nearB a b = false by unfold nearB; rw [decide_eq_false e1]; rfl)
    have g1 : (a.D == b.D) = false := by rw [beq_eq_false_iff_ne]; exact e1
    clear e1
    go_enter Try.func50, Try.ntmps50
    go_wp2
    go_ret
    exact ⟨by rw [H.out]; rfl, B⟩
  have g1 : (a.D == b.D) = true := by rw [beq_iff_eq]; exact e1
  by_cases e2 : absI (a.X - b.X) ≤ 40
  rotate_left
  · have H := Lib.hid (show nearB a b = false by unfold nearB; rw [decide_eq_false e2, Bool.false_and, Bool.and_false])
    clear e1
    go_enter Try.func50, Try.ntmps50
    go_wp2_with (go_at_call 64; refine (abs_any _ _ (by omega) (by omega)).mono ?_; rintro e w' ⟨rfl, rfl⟩)
    go_ret
    exact ⟨by rw [H.out]; first | rfl | (simp; omega), B⟩
  have H := Lib.hid (show nearB a b = decide (absI (a.Y - b.Y) ≤ 40) by unfold nearB; rw [decide_eq_true e1, decide_eq_true e2]; rfl)
  clear e1
  go_enter Try.func50, Try.ntmps50
  go_wp2_with (go_at_call 64; refine (abs_any _ _ (by omega) (by omega)).mono ?_; rintro e w' ⟨rfl, rfl⟩)
  go_ret
  exact ⟨by rw [H.out]; first | rfl | (simp; omega), B⟩

end Go.Proofs.Ytjfopofcbopfjaa
