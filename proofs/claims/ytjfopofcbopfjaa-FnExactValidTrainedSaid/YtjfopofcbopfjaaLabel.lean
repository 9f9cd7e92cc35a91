/- Labels. No conditions. -/
import Derived.Test.YtjfopofcbopfjaaIn
import Derived.Test.YtjfopofcbopfjaaShelf
import Derived.Test.YtjfopofcbopfjaaMem2
import Derived.Lib.IndexAny
namespace Go.Proofs.Ytjfopofcbopfjaa
open Go.RowKit
set_option linter.unusedVariables false

/-- Whether a byte is a label's. -/
def labB (n : Int) : Bool := decide ((97 ≤ n ∧ n ≤ 122) ∨ (48 ≤ n ∧ n ≤ 57) ∨ n = 43 ∨ n = 45 ∨ n = 42 ∨ n = 47 ∨ n = 61 ∨ n = 40 ∨ n = 41 ∨ n = 46 ∨ n = 44)
/-- Whether a string is a label. -/
def okLabel (s : ByteArray) : Bool := match s.data.toList with
  | [c] => labB c.toNat
  | _ => false
theorem okLabel_one (c : UInt8) : okLabel ⟨#[c]⟩ = labB c.toNat := rfl
theorem okLabel_size {s : ByteArray} (h : s.size ≠ 1) : okLabel s = false := by
  obtain ⟨⟨l⟩⟩ := s
  unfold okLabel
  cases l with
  | nil => rfl
  | cons c l =>
    cases l with
    | nil => exact absurd rfl h
    | cons d l => rfl
theorem size_one {s : ByteArray} (h : s.size = 1) : ∃ c, s = ⟨#[c]⟩ := by
  obtain ⟨⟨l⟩⟩ := s
  cases l with
  | nil => cases h
  | cons c l =>
    cases l with
    | nil => exact ⟨c, rfl⟩
    | cons d l => simp [ByteArray.size] at h

theorem l01Small_any (n : Int) (w : World) (h0 : 0 ≤ n) (h1 : n ≤ 255) :
    Calls Try.prog 73 #[.int .u8 n] w fun e w' => e = .returned (.bool (inR n 97 122)) ∧ w = w' := by
  by_cases h1 : 97 ≤ n
  · by_cases h2 : n ≤ 122
    · have H := Lib.hid (inR_true h1 h2)
      go_enter Try.func73, Try.ntmps73
      go_wp2
      go_ret
      exact ⟨by rw [H.out]; first | rfl | (simp; omega), rfl⟩
    · have H := Lib.hid (show inR n 97 122 = false by simp [inR]; omega)
      go_enter Try.func73, Try.ntmps73
      go_wp2
      go_ret
      exact ⟨by rw [H.out]; first | rfl | (simp; omega), rfl⟩
  · have H := Lib.hid (show inR n 97 122 = false by simp [inR]; omega)
    go_enter Try.func73, Try.ntmps73
    go_wp2
    go_ret
    exact ⟨by rw [H.out]; first | rfl | (simp; omega), rfl⟩

theorem isLetter_any (n : Int) (w : World) (h0 : 0 ≤ n) (h1 : n ≤ 255) :
    Calls Try.prog 61 #[.int .u8 n] w fun e w' => e = .returned (.bool (inR n 97 122)) ∧ w = w' := by
  by_cases h1 : 97 ≤ n
  · by_cases h2 : n ≤ 122
    · have H := Lib.hid (inR_true h1 h2)
      go_enter Try.func61, Try.ntmps61
      go_wp2
      go_ret
      exact ⟨by rw [H.out]; first | rfl | (simp; omega), rfl⟩
    · have H := Lib.hid (show inR n 97 122 = false by simp [inR]; omega)
      go_enter Try.func61, Try.ntmps61
      go_wp2
      go_ret
      exact ⟨by rw [H.out]; first | rfl | (simp; omega), rfl⟩
  · have H := Lib.hid (show inR n 97 122 = false by simp [inR]; omega)
    go_enter Try.func61, Try.ntmps61
    go_wp2
    go_ret
    exact ⟨by rw [H.out]; first | rfl | (simp; omega), rfl⟩

set_option maxHeartbeats 800000 in
theorem l11Label_any (n : Int) (w : World) (h0 : 0 ≤ n) (h1 : n ≤ 255) :
    Calls Try.prog 66 #[.int .u8 n] w fun e w' => e = .returned (.bool (labB n)) ∧ w = w' := by
  by_cases hp : n = 43 ∨ n = 45 ∨ n = 42 ∨ n = 47 ∨ n = 61 ∨ n = 40 ∨ n = 41 ∨ n = 46 ∨ n = 44
  · rcases hp with rfl | rfl | rfl | rfl | rfl | rfl | rfl | rfl | rfl
    all_goals
      go_enter Try.func66, Try.ntmps66
      go_wp2
      go_ret
      exact ⟨rfl, rfl⟩
  have e0 : (n == 43) = false := by rw [beq_eq_false_iff_ne]; omega
  have e1 : (n == 45) = false := by rw [beq_eq_false_iff_ne]; omega
  have e2 : (n == 42) = false := by rw [beq_eq_false_iff_ne]; omega
  have e3 : (n == 47) = false := by rw [beq_eq_false_iff_ne]; omega
  have e4 : (n == 61) = false := by rw [beq_eq_false_iff_ne]; omega
  have e5 : (n == 40) = false := by rw [beq_eq_false_iff_ne]; omega
  have e6 : (n == 41) = false := by rw [beq_eq_false_iff_ne]; omega
  have e7 : (n == 46) = false := by rw [beq_eq_false_iff_ne]; omega
  have e8 : (n == 44) = false := by rw [beq_eq_false_iff_ne]; omega
  by_cases hs : inR n 97 122 = true
  · have H := Lib.hid (show labB n = true by have := inR_iff.1 hs; unfold labB; simp; omega)
    clear hp
    go_enter Try.func66, Try.ntmps66
    go_wp2_with (go_at_call 73; refine (l01Small_any _ _ h0 h1).mono ?_; rintro e w' ⟨rfl, rfl⟩; rw [hs])
    go_ret
    exact ⟨by rw [H.out]; rfl, rfl⟩
  have hs' : inR n 97 122 = false := by simpa using hs
  by_cases hd : 48 ≤ n
  · by_cases hd2 : n ≤ 57
    · have H := Lib.hid (show labB n = true by unfold labB; simp; omega)
      clear hp hs
      go_enter Try.func66, Try.ntmps66
      go_wp2_with (go_at_call 73; refine (l01Small_any _ _ h0 h1).mono ?_; rintro e w' ⟨rfl, rfl⟩; rw [hs'])
      go_ret
      exact ⟨by rw [H.out]; first | rfl | (simp; omega), rfl⟩
    · have H := Lib.hid (show labB n = false by have h : ¬ (97 ≤ n ∧ n ≤ 122) := by rw [← inR_iff]; exact hs
                                                unfold labB; simp; omega)
      clear hp hs
      go_enter Try.func66, Try.ntmps66
      go_wp2_with (go_at_call 73; refine (l01Small_any _ _ h0 h1).mono ?_; rintro e w' ⟨rfl, rfl⟩; rw [hs'])
      go_ret
      exact ⟨by rw [H.out]; first | rfl | (simp; omega), rfl⟩
  · have H := Lib.hid (show labB n = false by have h : ¬ (97 ≤ n ∧ n ≤ 122) := by rw [← inR_iff]; exact hs
                                              unfold labB; simp; omega)
    clear hp hs
    go_enter Try.func66, Try.ntmps66
    go_wp2_with (go_at_call 73; refine (l01Small_any _ _ h0 h1).mono ?_; rintro e w' ⟨rfl, rfl⟩; rw [hs'])
    go_ret
    exact ⟨by rw [H.out]; first | rfl | (simp; omega), rfl⟩

theorem byte_le (c : UInt8) : ((c.toNat : Nat) : Int) ≤ 255 := by have := c.toNat_lt; omega
theorem specIsLabel_any (s : ByteArray) (w : World) (hs : s.size ≤ maxLen) :
    Calls Try.prog 58 #[.string s] w fun e w' => e = .returned (.bool (okLabel s)) ∧ w = w' := by
  unfold maxLen at hs
  by_cases h : s.size = 1
  · obtain ⟨c, rfl⟩ := size_one h
    clear h hs
    have hb := byte_le c
    have h0 : (0 : Int) ≤ ((c.toNat : Nat) : Int) := by omega
    rw [okLabel_one]
    go_enter Try.func58, Try.ntmps58
    go_wp2_with (go_at_call 66; refine (l11Label_any _ _ h0 hb).mono ?_; rintro e w' ⟨rfl, rfl⟩)
    go_ret
    exact ⟨rfl, rfl⟩
  · have H := Lib.hid (okLabel_size h)
    have h' : ((s.size : Int) == 1) = false := by rw [beq_eq_false_iff_ne]; omega
    clear h
    go_enter Try.func58, Try.ntmps58
    go_wp2
    go_ret
    exact ⟨by rw [H.out]; rfl, rfl⟩

theorem contains_lab (c : UInt8) (h : inR c.toNat 97 122 = false) : decide (0 ≤ Lib.indexByte [48, 49, 50, 51, 52, 53, 54, 55, 56, 57, 43, 45, 42, 47, 61, 40, 41, 46, 44] c) = labB c.toNat := by
  rw [← Lib.contains_iff_indexByte]
  have hn : ¬ (97 ≤ ((c.toNat : Nat) : Int) ∧ ((c.toNat : Nat) : Int) ≤ 122) := by rw [← inR_iff, h]; decide
  have hc : ∀ k : UInt8, (c == k) = decide (((c.toNat : Nat) : Int) = (k.toNat : Nat)) := fun k => by
    rw [Bool.eq_iff_iff, beq_iff_eq, decide_eq_true_eq, ← UInt8.toNat_inj]; omega
  simp only [List.contains_cons, List.contains_nil, hc]
  unfold labB
  rw [Bool.eq_iff_iff]
  simp
  omega

set_option maxHeartbeats 800000 in
theorem implIsLabel_any (s : ByteArray) (w : World) (hs : s.size ≤ maxLen) :
    Calls Try.prog 47 #[.string s] w fun e w' => e = .returned (.bool (okLabel s)) ∧ w = w' := by
  unfold maxLen at hs
  by_cases h : s.size = 1
  · obtain ⟨c, rfl⟩ := size_one h
    clear h hs
    have hb := byte_le c
    have h0 : (0 : Int) ≤ ((c.toNat : Nat) : Int) := by omega
    rw [okLabel_one]
    by_cases hl : inR c.toNat 97 122 = true
    · have H := Lib.hid (show labB c.toNat = true by have := inR_iff.1 hl; unfold labB; simp; omega)
      go_enter Try.func47, Try.ntmps47
      go_wp2_with (go_at_call 61; refine (isLetter_any _ _ h0 hb).mono ?_; rintro e w' ⟨rfl, rfl⟩; rw [hl])
      go_ret
      exact ⟨by rw [H.out]; rfl, rfl⟩
    · have hl : inR c.toNat 97 122 = false := by simpa using hl
      have H := Lib.hid (contains_lab c hl)
      go_enter Try.func47, Try.ntmps47
      go_wp2_with fail
      refine (isLetter_any _ _ h0 hb).mono ?_
      rintro e w' ⟨rfl, rfl⟩
      rw [hl]
      go_wp2_with fail
      have hh := Try.strings_Contains_one ⟨#[48, 49, 50, 51, 52, 53, 54, 55, 56, 57, 43, 45, 42, 47, 61, 40, 41, 46, 44]⟩ c w
      refine hh.mono ?_
      clear hh
      rintro e w' ⟨rfl, rfl⟩
      simp only
      rw [H.out]
      go_wp2_with fail
      go_ret
      exact ⟨rfl, rfl⟩
  · have H := Lib.hid (okLabel_size h)
    have h' : ((s.size : Int) == 1) = false := by rw [beq_eq_false_iff_ne]; omega
    clear h
    go_enter Try.func47, Try.ntmps47
    go_wp2
    go_ret
    exact ⟨by rw [H.out]; rfl, rfl⟩
end Go.Proofs.Ytjfopofcbopfjaa
