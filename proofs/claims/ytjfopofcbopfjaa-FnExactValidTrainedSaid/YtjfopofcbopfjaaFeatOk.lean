/- Valid features and lists of features. No conditions. -/
import Derived.Test.YtjfopofcbopfjaaTypA
import Derived.Test.YtjfopofcbopfjaaMem2
import Derived.Test.YtjfopofcbopfjaaIn
import Derived.Test.YtjfopofcbopfjaaListL
namespace Go.Proofs.Ytjfopofcbopfjaa
open Go.RowKit
set_option linter.unusedVariables false

def okF (p : Feat) : Bool := inR p.X 0 255 && (inR p.Y 0 255 && inR p.D 0 7)
/-- Whether a list of features is one that may be compared. -/
def okSeq (xs : List Feat) : Bool := inR xs.length 1 72 && xs.all okF
set_option maxHeartbeats 800000 in
theorem l09Feat_any (p : Feat) (w : World) :
    Calls Try.prog 67 #[.agg #[.int .i64 p.X, .int .i64 p.Y, .int .i64 p.D]] w fun e w' => e = .returned (.bool (okF p)) ∧ Below w.heap.size w w' := by
  by_cases h0 : inR p.X 0 255 = true
  rotate_left
  · have h0 : inR p.X 0 255 = false := by simpa using h0
    have H := Lib.hid (show okF p = false by simp [okF, h0])
    go_enter Try.func67, Try.ntmps67
    go_wp2_with (first | (go_at_call 27; refine (l00In_any _ _ _ _).mono ?_; rintro e w' ⟨rfl, rfl⟩))
    go_ret
    exact ⟨by rw [H.out]; rfl, (Below.refl _ _).alloc (Nat.le_refl _) _⟩
  by_cases h1 : inR p.Y 0 255 = true
  rotate_left
  · have h1 : inR p.Y 0 255 = false := by simpa using h1
    have H := Lib.hid (show okF p = false by simp [okF, h0, h1])
    go_enter Try.func67, Try.ntmps67
    go_wp2_with (first | (go_at_call 27; refine (l00In_any _ _ _ _).mono ?_; rintro e w' ⟨rfl, rfl⟩))
    go_ret
    exact ⟨by rw [H.out]; rfl, (Below.refl _ _).alloc (Nat.le_refl _) _⟩
  have H := Lib.hid (show okF p = inR p.D 0 7 by simp [okF, h0, h1])
  go_enter Try.func67, Try.ntmps67
  go_wp2_with (first | (go_at_call 27; refine (l00In_any _ _ _ _).mono ?_; rintro e w' ⟨rfl, rfl⟩))
  go_ret
  exact ⟨by rw [H.out]; rfl, (Below.refl _ _).alloc (Nat.le_refl _) _⟩

set_option maxHeartbeats 800000 in
theorem ValidFeat_any (p : Feat) (w : World) :
    Calls Try.prog 72 #[.agg #[.int .i64 p.X, .int .i64 p.Y, .int .i64 p.D]] w fun e w' => e = .returned (.bool (okF p)) ∧ Below w.heap.size w w' := by
  by_cases h0 : inR p.X 0 255 = true
  rotate_left
  · have h0 : inR p.X 0 255 = false := by simpa using h0
    have H := Lib.hid (show okF p = false by simp [okF, h0])
    go_enter Try.func72, Try.ntmps72
    go_wp2_with (first | (go_at_call 28; refine (within_any _ _ _ _).mono ?_; rintro e w' ⟨rfl, rfl⟩))
    go_ret
    exact ⟨by rw [H.out]; rfl, (Below.refl _ _).alloc (Nat.le_refl _) _⟩
  by_cases h1 : inR p.Y 0 255 = true
  rotate_left
  · have h1 : inR p.Y 0 255 = false := by simpa using h1
    have H := Lib.hid (show okF p = false by simp [okF, h0, h1])
    go_enter Try.func72, Try.ntmps72
    go_wp2_with (first | (go_at_call 28; refine (within_any _ _ _ _).mono ?_; rintro e w' ⟨rfl, rfl⟩))
    go_ret
    exact ⟨by rw [H.out]; rfl, (Below.refl _ _).alloc (Nat.le_refl _) _⟩
  have H := Lib.hid (show okF p = inR p.D 0 7 by simp [okF, h0, h1])
  go_enter Try.func72, Try.ntmps72
  go_wp2_with (first | (go_at_call 28; refine (within_any _ _ _ _).mono ?_; rintro e w' ⟨rfl, rfl⟩))
  go_ret
  exact ⟨by rw [H.out]; rfl, (Below.refl _ _).alloc (Nat.le_refl _) _⟩

set_option maxHeartbeats 800000 in
theorem l09Ok_any (v : Value) (xs : List Feat) (w : World) (hx : Sl featR w (Old w) v xs) :
    Calls Try.prog 59 #[v] w fun e w' => e = .returned (.bool (okSeq xs)) ∧ Below w.heap.size w w' := by
  obtain ⟨A, c, rfl, hc, hm, hC⟩ := hx
  have hs := Nat.le_trans hc hm
  unfold maxLen at hs
  obtain ⟨n, hn⟩ : ∃ n, n = xs.length := ⟨_, rfl⟩
  rw [← hn] at hs ⊢
  have Hn := Lib.hid hn
  clear hn hc hm
  go_enter Try.func59, Try.ntmps59
  go_wp2
  go_loopw [3] (fun i wr => ∃ k : Nat, k ≤ n ∧ i = .int .i64 k ∧ Hid (∀ i y, i < k → xs[i]? = some y → okF y = true) ∧ Below w.heap.size w wr) (fun i _ => n - (intOf i).toNat)
  case atStart => exact ⟨0, Nat.zero_le _, rfl, upto_zero, Below.refl _ _⟩
  case round =>
    obtain ⟨k, hk, rfl, hno, hb⟩ := hrel
    by_cases hlt : k < n
    · obtain ⟨x, hx⟩ := get_lt (l := xs) (k := k) (by have := Hn.out; omega)
      obtain ⟨b, o, rfl, _, hbl, c0, c1, c2⟩ := (hC.up hb).feat hx
      have hcon := l09Feat_any x wr
      have Hx := Lib.hid hx
      clear hx
      by_cases hp : okF x = true
      · rw [hp] at hcon
        have Hp := Lib.hid hp
        have Hc := Lib.hid hcon
        clear hcon hp
        go_wp2_with (go_at_call 67; refine Hc.out.mono ?_; rintro e w1 ⟨rfl, hb1⟩)
        go_roundw
        case rel => exact ⟨k + 1, by omega, by go_num, upto_step hno.out Hx.out Hp.out, hb.trans (hb1.mono hb.size)⟩
        case measure => simp [intOf]; omega
      · have hp : okF x = false := by simpa using hp
        have H := Lib.hid (show (okSeq xs) = false by unfold okSeq; rw [all_bad Hx.out hp, Bool.and_false])
        rw [hp] at hcon
        have Hc := Lib.hid hcon
        clear hcon hp
        go_wp2_with (go_at_call 67; refine Hc.out.mono ?_; rintro e w1 ⟨rfl, hb1⟩)
        go_ret
        exact ⟨by rw [H.out]; rfl, hb.trans (hb1.mono hb.size)⟩
    · obtain rfl : k = n := by omega
      have ha := all_end (p := okF) (xs := xs) (by rw [← Hn.out]; exact hno.out)
      have H := Lib.hid (show okSeq xs = inR xs.length 1 72 by unfold okSeq; rw [ha, Bool.and_true])
      obtain rfl : k = xs.length := Hn.out
      go_wp2_with (go_at_call 27; refine (l00In_any _ _ _ _).mono ?_; rintro e w' ⟨rfl, rfl⟩)
      go_ret
      exact ⟨by rw [H.out]; rfl, hb⟩

/-- The opposite of okF. -/
def badF (p : Feat) : Bool := !okF p
theorem any_badF (xs : List Feat) : (!xs.any badF) = xs.all okF := by
  induction xs with
  | nil => rfl
  | cons x xs ih => simp only [List.any_cons, List.all_cons, Bool.not_or, ih, badF, Bool.not_not]
theorem areFeats1_any (p : Feat) (w : World) :
    Calls Try.prog 71 #[.agg #[.int .i64 p.X, .int .i64 p.Y, .int .i64 p.D]] w fun e w' => e = .returned (.bool (badF p)) ∧ Below w.heap.size w w' := by
  unfold badF
  go_enter Try.func71, Try.ntmps71
  go_wp2_with fail
  refine (ValidFeat_any p _).mono ?_
  rintro e w1 ⟨rfl, hb1⟩
  go_wp2_with fail
  go_ret
  exact ⟨rfl, ((Below.refl _ _).alloc (Nat.le_refl _) _).trans (hb1.mono (by simp))⟩

set_option maxHeartbeats 800000 in
theorem indexFunc_badF (v : Value) (xs : List Feat) (w : World) (hx : Sl featR w (Old w) v xs) :
    Calls Try.prog 75 #[v, .func (.func 71) #[] #[]] w fun e w' => e = .returned (.int .i64 (firstAt badF xs)) ∧ Below w.heap.size w w' := by
  obtain ⟨A, c, rfl, hc, hm, hC⟩ := hx
  have hs := Nat.le_trans hc hm
  unfold maxLen at hs
  obtain ⟨n, hn⟩ : ∃ n, n = xs.length := ⟨_, rfl⟩
  rw [← hn] at hs ⊢
  have Hn := Lib.hid hn
  clear hn hc hm
  go_enter Try.func75, Try.ntmps75
  go_wp2
  go_loopw [8] (fun i wr => ∃ k : Nat, k ≤ n ∧ i = .int .i64 k ∧ Hid (∀ i y, i < k → xs[i]? = some y → badF y = false) ∧ Below w.heap.size w wr) (fun i _ => n - (intOf i).toNat)
  case atStart => exact ⟨0, Nat.zero_le _, rfl, upto_zero, Below.refl _ _⟩
  case round =>
    obtain ⟨k, hk, rfl, hno, hb⟩ := hrel
    by_cases hlt : k < n
    · obtain ⟨x, hx⟩ := get_lt (l := xs) (k := k) (by have := Hn.out; omega)
      obtain ⟨b, o, rfl, _, hbl, c0, c1, c2⟩ := (hC.up hb).feat hx
      have hcon := areFeats1_any x wr
      have Hx := Lib.hid hx
      clear hx
      by_cases hp : badF x = true
      · have H := Lib.hid (firstAt_hit Hx.out hp hno.out)
        rw [hp] at hcon
        have Hc := Lib.hid hcon
        clear hcon hp
        go_wp2_with (go_at_call 71; refine Hc.out.mono ?_; rintro e w1 ⟨rfl, hb1⟩)
        go_ret
        exact ⟨by rw [H.out]; rfl, hb.trans (hb1.mono hb.size)⟩
      · have hp : badF x = false := by simpa using hp
        rw [hp] at hcon
        have Hp := Lib.hid hp
        have Hc := Lib.hid hcon
        clear hcon hp
        go_wp2_with (go_at_call 71; refine Hc.out.mono ?_; rintro e w1 ⟨rfl, hb1⟩)
        go_roundw
        case rel => exact ⟨k + 1, by omega, by go_num, upto_step hno.out Hx.out Hp.out, hb.trans (hb1.mono hb.size)⟩
        case measure => simp [intOf]; omega
    · obtain rfl : k = n := by omega
      have H := Lib.hid (show firstAt badF xs = -1 from firstAt_none (by rw [← Hn.out]; exact hno.out))
      go_wp2
      go_ret
      exact ⟨by rw [H.out]; rfl, hb⟩

theorem containsFunc_badF (v : Value) (xs : List Feat) (w : World) (hx : Sl featR w (Old w) v xs) :
    Calls Try.prog 70 #[v, .func (.func 71) #[] #[]] w fun e w' => e = .returned (.bool (xs.any badF)) ∧ Below w.heap.size w w' := by
  have H := Lib.hid (firstAt_any badF xs)
  have hx0 := hx
  obtain ⟨A, c, rfl, _⟩ := hx0
  go_enter Try.func70, Try.ntmps70
  go_wp2_with fail
  have hh := indexFunc_badF _ xs _ hx
  refine hh.mono ?_
  clear hh
  rintro e w1 ⟨rfl, hb1⟩
  go_wp2_with fail
  go_ret
  exact ⟨by rw [← H.out]; rfl, hb1⟩

set_option maxHeartbeats 800000 in
theorem areFeats_any (v : Value) (xs : List Feat) (m : Int) (w : World) (hx : Sl featR w (Old w) v xs) :
    Calls Try.prog 63 #[v, .int .i64 m] w fun e w' => e = .returned (.bool (inR xs.length 1 m && xs.all okF)) ∧ Below w.heap.size w w' := by
  have hx0 := hx
  obtain ⟨A, c, rfl, hc, hm, _⟩ := hx0
  have hs := Nat.le_trans hc hm
  unfold maxLen at hs
  clear hc hm
  by_cases h1 : 1 ≤ xs.length
  · by_cases h2 : (xs.length : Int) ≤ m
    · have H := Lib.hid (show (inR xs.length 1 m && xs.all okF) = !xs.any badF by rw [inR_true (by omega) h2, Bool.true_and, any_badF])
      go_enter Try.func63, Try.ntmps63
      go_wp2_with fail
      have hh := containsFunc_badF _ xs _ hx
      refine hh.mono ?_
      clear hh
      rintro e w1 ⟨rfl, hb1⟩
      go_wp2_with fail
      go_ret
      exact ⟨by rw [H.out]; rfl, hb1⟩
    · have H := Lib.hid (show (inR xs.length 1 m && xs.all okF) = false by rw [show inR xs.length 1 m = false by simp [inR]; omega]; rfl)
      go_enter Try.func63, Try.ntmps63
      go_wp2
      go_ret
      exact ⟨by rw [H.out]; rfl, Below.refl _ _⟩
  · have H := Lib.hid (show (inR xs.length 1 m && xs.all okF) = false by rw [show inR xs.length 1 m = false by simp [inR]; omega]; rfl)
    go_enter Try.func63, Try.ntmps63
    go_wp2
    go_ret
    exact ⟨by rw [H.out]; rfl, Below.refl _ _⟩

theorem ValidSeq_any (v : Value) (xs : List Feat) (w : World) (hx : Sl featR w (Old w) v xs) :
    Calls Try.prog 48 #[v] w fun e w' => e = .returned (.bool (okSeq xs)) ∧ Below w.heap.size w w' := by
  have hx0 := hx
  obtain ⟨A, c, rfl, _⟩ := hx0
  go_enter Try.func48, Try.ntmps48
  go_wp2_with fail
  have hh := areFeats_any _ xs 72 _ hx
  refine hh.mono ?_
  clear hh
  rintro e w1 ⟨rfl, hb1⟩
  go_wp2_with fail
  go_ret
  exact ⟨rfl, hb1⟩
end Go.Proofs.Ytjfopofcbopfjaa
