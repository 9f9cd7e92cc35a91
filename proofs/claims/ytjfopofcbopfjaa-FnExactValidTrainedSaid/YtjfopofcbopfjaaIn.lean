/- spec.l00In and impl.within: whether a number lies within two bounds, for all numbers. -/
import Derived.Test.YtjfopofcbopfjaaRows
import Derived.WalkKit
import Derived.WalkSpells
import Derived.WalkLawsBesides
namespace Go.Proofs.Ytjfopofcbopfjaa
open Go.RowKit

def inR (a l h : Int) : Bool := decide (l ≤ a ∧ a ≤ h)
theorem inR_true {a l h : Int} (h1 : l ≤ a) (h2 : a ≤ h) : inR a l h = true := by simp [inR, h1, h2]
theorem inR_iff {a l h : Int} : inR a l h = true ↔ l ≤ a ∧ a ≤ h := by simp [inR]

theorem l00In_any (a l h : Int) (w : World) :
    Calls Try.prog 27 #[.int .i64 a, .int .i64 l, .int .i64 h] w fun e w' => e = .returned (.bool (inR a l h)) ∧ w = w' := by
  by_cases h1 : l ≤ a
  · by_cases h2 : a ≤ h
    · go_enter Try.func27, Try.ntmps27
      go_wp2
      go_ret
      simp [inR, h1, h2]
    · go_enter Try.func27, Try.ntmps27
      go_wp2
      go_ret
      simp [inR]; omega
  · go_enter Try.func27, Try.ntmps27
    go_wp2
    go_ret
    simp [inR]; omega

theorem within_any (a l h : Int) (w : World) :
    Calls Try.prog 28 #[.int .i64 a, .int .i64 l, .int .i64 h] w fun e w' => e = .returned (.bool (inR a l h)) ∧ w = w' := by
  by_cases h1 : l ≤ a
  · by_cases h2 : a ≤ h
    · go_enter Try.func28, Try.ntmps28
      go_wp2
      go_ret
      simp [inR, h1, h2]
    · go_enter Try.func28, Try.ntmps28
      go_wp2
      go_ret
      simp [inR]; omega
  · go_enter Try.func28, Try.ntmps28
    go_wp2
    go_ret
    simp [inR]; omega
end Go.Proofs.Ytjfopofcbopfjaa
