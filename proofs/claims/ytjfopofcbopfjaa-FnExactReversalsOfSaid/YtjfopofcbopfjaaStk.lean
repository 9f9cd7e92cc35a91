/- Valid strokes. No conditions. -/
import Derived.Test.YtjfopofcbopfjaaPt
namespace Go.Proofs.Ytjfopofcbopfjaa
open Go.RowKit
set_option linter.unusedVariables false

set_option maxHeartbeats 3200000 in
theorem l02Stroke_any (g o : Nat) (cs : List Value) (x : Stroke) (w : World) (hx : At strokeR w (Old w) g o cs x) :
    Calls Try.prog 35 #[.pointer (some ⟨g, o, none⟩)] w fun e w' => e = .returned (.bool (validS x.Points)) ∧ Below w.heap.size w w' := by
  have hx0 := hx
  obtain ⟨hg, ⟨v, rfl, h1⟩, hc⟩ := hx0
  obtain ⟨A, c, rfl, hl, hm, hC⟩ := h1
  have hs := Nat.le_trans hl hm
  unfold maxLen at hs
  have cs0 := hc 0 _ rfl
  simp only [Nat.add_zero] at cs0
  obtain ⟨xs, rfl⟩ : ∃ xs, x = ⟨xs⟩ := ⟨x.Points, rfl⟩
  simp only at hs cs0 hC hx ⊢
  obtain ⟨n, hn⟩ : ∃ n, n = xs.length := ⟨_, rfl⟩
  rw [← hn] at hs cs0
  have Hn := Lib.hid hn
  clear hl hm hc hn hx
  go_enter Try.func35, Try.ntmps35
  go_wp2
  go_loopw [3] (fun i wr => ∃ k : Nat, k ≤ n ∧ i = .int .i64 k ∧ Hid (okTo xs k) ∧ Below w.heap.size w wr) (fun i _ => n - (intOf i).toNat)
  case atStart => exact ⟨0, Nat.zero_le _, rfl, okTo.zero _, Below.refl _ _⟩
  case round =>
    obtain ⟨k, hk, rfl, ho, hb⟩ := hrel
    have cs1 := kc hb hg cs0
    have hz := hb.size
    by_cases hlt : k < n
    · obtain ⟨p, hp⟩ := get_lt (l := xs) (k := k) (by have := Hn.out; omega)
      obtain ⟨b, bo, rfl, _, hbl, c0, c1, c2⟩ := (hC.up hb).point hp
      have Hp := Lib.hid hp
      by_cases hok : okP p = true
      · rcases Nat.eq_zero_or_pos k with rfl | hpos
        · clear hp
          simp only [Nat.zero_mul, Nat.add_zero] at c0 c1 c2
          have hz0 : (0 : Int) < (n : Int) := by omega
          go_wp2
          have r0 := cell_regrown cs1
          have r1 := cell_regrown c0
          have r2 := cell_regrown c1
          have r3 := cell_regrown c2
          have rc : ∀ d os, Calls Try.prog 54 #[.agg #[.int .i64 p.X, .int .i64 p.Y, .int .i64 p.T]] (Sort.grow (redrawn wr d) os) fun e w'' => e = .returned (.bool true) ∧ ∃ p : Regrown, w'' = Sort.grow (redrawn wr p.d) p.os :=
            fun d os => Calls.regrown_of (by rw [← hok]; exact l02Point_any p _)
          refine wp_region_quiet_below (by kernel_rfl) (by kernel_rfl) ?_
          repeat (first | go_big_quiet_step (((go_at_call 54; exact rc _ _))) | quiet_step (((go_at_call 54; exact rc _ _))))
          refine wpQuiet_nil ?_
          intro w1 hw1
          have hb1 := of_regrown hw1
          clear hw1 r0 r1 r2 r3 rc
          go_wp2
          go_roundw
          case rel => exact ⟨1, by omega, rfl, okTo.first Hp.out hok, hb.trans (hb1.mono hb.size)⟩
          case measure => simp [intOf]; omega
        · obtain ⟨j, rfl⟩ : ∃ j, k = j + 1 := ⟨k - 1, by omega⟩
          obtain ⟨q, hq⟩ := get_lt (l := xs) (k := j) (by have := Hn.out; omega)
          obtain ⟨b', bo', e', _, _, _, _, d2⟩ := (hC.up hb).point hq
          cases e'
          by_cases ht : p.T ≤ q.T
          · have H := Lib.hid (validS_late hp hq ht)
            have hd : decide (p.T ≤ q.T) = true := by simpa using ht
            clear hp hq
            go_wp2
            have r0 := cell_regrown cs1
            have r1 := cell_regrown c0
            have r2 := cell_regrown c1
            have r3 := cell_regrown c2
            have r4 := cell_regrown d2
            have rc : ∀ d os, Calls Try.prog 54 #[.agg #[.int .i64 p.X, .int .i64 p.Y, .int .i64 p.T]] (Sort.grow (redrawn wr d) os) fun e w'' => e = .returned (.bool true) ∧ ∃ p : Regrown, w'' = Sort.grow (redrawn wr p.d) p.os :=
              fun d os => Calls.regrown_of (by rw [← hok]; exact l02Point_any p _)
            refine wp_region_quiet_below (by kernel_rfl) (by kernel_rfl) ?_
            repeat (first | go_big_quiet_step (((go_at_call 54; exact rc _ _))) | quiet_step (((go_at_call 54; exact rc _ _))))
            refine wpQuiet_nil ?_
            intro w1 hw1
            have hb1 := of_regrown hw1
            clear hw1 r0 r1 r2 r3 r4 rc
            clear hd
            go_wp2
            go_ret
            exact ⟨by rw [H.out]; rfl, hb.trans (hb1.mono hb.size)⟩
          · have hd : decide (p.T ≤ q.T) = false := by simpa using ht
            have Hq := Lib.hid hq
            clear hp hq
            go_wp2
            have r0 := cell_regrown cs1
            have r1 := cell_regrown c0
            have r2 := cell_regrown c1
            have r3 := cell_regrown c2
            have r4 := cell_regrown d2
            have rc : ∀ d os, Calls Try.prog 54 #[.agg #[.int .i64 p.X, .int .i64 p.Y, .int .i64 p.T]] (Sort.grow (redrawn wr d) os) fun e w'' => e = .returned (.bool true) ∧ ∃ p : Regrown, w'' = Sort.grow (redrawn wr p.d) p.os :=
              fun d os => Calls.regrown_of (by rw [← hok]; exact l02Point_any p _)
            refine wp_region_quiet_below (by kernel_rfl) (by kernel_rfl) ?_
            repeat (first | go_big_quiet_step (((go_at_call 54; exact rc _ _))) | quiet_step (((go_at_call 54; exact rc _ _))))
            refine wpQuiet_nil ?_
            intro w1 hw1
            have hb1 := of_regrown hw1
            clear hw1 r0 r1 r2 r3 r4 rc
            clear hd
            go_wp2
            go_roundw
            case rel => exact ⟨j + 1 + 1, by omega, by go_num, okTo.succ ho.out Hp.out Hq.out hok (by omega), hb.trans (hb1.mono hb.size)⟩
            case measure => simp [intOf]; omega
      · have hok : okP p = false := by simpa using hok
        have H := Lib.hid (validS_bad hp hok)
        clear hp
        go_wp2
        have r0 := cell_regrown cs1
        have r1 := cell_regrown c0
        have r2 := cell_regrown c1
        have r3 := cell_regrown c2
        have rc : ∀ d os, Calls Try.prog 54 #[.agg #[.int .i64 p.X, .int .i64 p.Y, .int .i64 p.T]] (Sort.grow (redrawn wr d) os) fun e w'' => e = .returned (.bool false) ∧ ∃ p : Regrown, w'' = Sort.grow (redrawn wr p.d) p.os :=
          fun d os => Calls.regrown_of (by rw [← hok]; exact l02Point_any p _)
        refine wp_region_quiet_below (by kernel_rfl) (by kernel_rfl) ?_
        repeat (first | go_big_quiet_step (((go_at_call 54; exact rc _ _))) | quiet_step (((go_at_call 54; exact rc _ _))))
        refine wpQuiet_nil ?_
        intro w1 hw1
        have hb1 := of_regrown hw1
        clear hw1 r0 r1 r2 r3 rc
        go_wp2
        go_ret
        exact ⟨by rw [H.out]; rfl, hb.trans (hb1.mono hb.size)⟩
    · obtain rfl : k = n := by omega
      obtain rfl : k = xs.length := Hn.out
      have H := Lib.hid (validS_end ho.out)
      go_wp2_with (go_at_call 27; refine (l00In_any _ _ _ _).mono ?_; rintro e w' ⟨rfl, rfl⟩)
      go_ret
      exact ⟨by rw [H.out]; rfl, hb⟩
end Go.Proofs.Ytjfopofcbopfjaa
