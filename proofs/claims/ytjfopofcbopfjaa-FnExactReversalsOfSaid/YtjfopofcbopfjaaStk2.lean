/- Valid strokes, the program's. No conditions. -/
import Derived.Test.YtjfopofcbopfjaaStk
namespace Go.Proofs.Ytjfopofcbopfjaa
open Go.RowKit
set_option linter.unusedVariables false

theorem World.cell?_alloc_new_at (w : World) (j : Nat) (cs : Array Value) (t : TypeId) {v : Value} (h : cs[j]? = some v) : (w.alloc (.cells cs t)).cell? ⟨w.heap.size, j, none⟩ = some v := by
  rw [cell_of_row _ w.heap.size j cs t (0, 0) (heap_alloc_new w _)]; exact h

set_option maxHeartbeats 3200000 in
theorem ValidStroke_any (cs : List Value) (x : Stroke) (w : World) (hx : strokeR.rel w (Old w) cs x) :
    Calls Try.prog 38 #[.agg cs.toArray] w fun e w' => e = .returned (.bool (validS x.Points)) ∧ Below w.heap.size w w' := by
  obtain ⟨v, rfl, h1⟩ := hx
  have hba := (Below.refl w.heap.size w).alloc (Nat.le_refl _) (.cells #[v] 42)
  have h1 := h1.up hba
  have cs0 := World.cell?_alloc_new_at w 0 #[v] 42 rfl
  obtain ⟨A, c, rfl, hl, hm, hC⟩ := h1
  have hs := Nat.le_trans hl hm
  unfold maxLen at hs
  obtain ⟨xs, rfl⟩ : ∃ xs, x = ⟨xs⟩ := ⟨x.Points, rfl⟩
  simp only at hs cs0 hC hba ⊢
  obtain ⟨n, hn⟩ : ∃ n, n = xs.length := ⟨_, rfl⟩
  rw [← hn] at hs cs0 hba hC ⊢
  have Hn := Lib.hid hn
  clear hl hm hn
  go_enter Try.func38, Try.ntmps38
  go_wp2
  have hg : w.heap.size < (w.alloc (.cells #[.slice A n c] 42)).heap.size := by simp
  generalize w.alloc (.cells #[.slice A n c] 42) = W0 at *
  go_loopw [8] (fun i wr => ∃ k : Nat, k ≤ n ∧ i = .int .i64 k ∧ Hid (okTo xs k) ∧ Below W0.heap.size W0 wr) (fun i _ => n - (intOf i).toNat)
  case atStart => exact ⟨0, Nat.zero_le _, rfl, okTo.zero _, Below.refl _ _⟩
  case round =>
    obtain ⟨k, hk, rfl, ho, hb⟩ := hrel
    have cs1 := kc hb hg cs0
    have hgW : w.heap.size < wr.heap.size := Nat.lt_of_lt_of_le hg hb.size
    by_cases hlt : k < n
    · obtain ⟨p, hp⟩ := get_lt (l := xs) (k := k) (by have := Hn.out; omega)
      obtain ⟨b, bo, rfl, _, hbl, c0, c1, c2⟩ := (hC.up hb).point hp
      have hbx := (Below.refl wr.heap.size wr).alloc (Nat.le_refl _) (.cells #[.int .i64 p.X, .int .i64 p.Y, .int .i64 p.T] 90)
      have hz1 := hb.size
      have f0 := kc hbx hgW cs1
      have f1 : (wr.alloc (.cells #[.int .i64 p.X, .int .i64 p.Y, .int .i64 p.T] 90)).cell? ⟨wr.heap.size, 0, none⟩ = some (.int .i64 p.X) := World.cell?_alloc_new_at _ 0 _ _ rfl
      have f2 : (wr.alloc (.cells #[.int .i64 p.X, .int .i64 p.Y, .int .i64 p.T] 90)).cell? ⟨wr.heap.size, 1, none⟩ = some (.int .i64 p.Y) := World.cell?_alloc_new_at _ 1 _ _ rfl
      have f3 : (wr.alloc (.cells #[.int .i64 p.X, .int .i64 p.Y, .int .i64 p.T] 90)).cell? ⟨wr.heap.size, 2, none⟩ = some (.int .i64 p.T) := World.cell?_alloc_new_at _ 2 _ _ rfl
      have hbB := (hb.trans (hbx.mono hb.size))
      have Hp := Lib.hid hp
      by_cases hok : okP p = true
      · rcases Nat.eq_zero_or_pos k with rfl | hpos
        · clear hp
          simp only [Nat.zero_mul, Nat.add_zero] at c0 c1 c2
          have hz0 : (0 : Int) < (n : Int) := by omega
          go_wp2
          have r0 := cell_regrown f0
          have r1 := cell_regrown f1
          have r2 := cell_regrown f2
          have r3 := cell_regrown f3
          have rc : ∀ d os, Calls Try.prog 56 #[.agg #[.int .i64 p.X, .int .i64 p.Y, .int .i64 p.T]] (Sort.grow (redrawn (wr.alloc (.cells #[.int .i64 p.X, .int .i64 p.Y, .int .i64 p.T] 90)) d) os) fun e w'' => e = .returned (.bool true) ∧ ∃ pz : Regrown, w'' = Sort.grow (redrawn (wr.alloc (.cells #[.int .i64 p.X, .int .i64 p.Y, .int .i64 p.T] 90)) pz.d) pz.os :=
            fun d os => Calls.regrown_of (by rw [← hok]; exact validPoint_any p _)
          refine wp_region_quiet_below (by kernel_rfl) (by kernel_rfl) ?_
          repeat (first | go_big_quiet_step (((go_at_call 56; exact rc _ _))) | quiet_step (((go_at_call 56; exact rc _ _))))
          refine wpQuiet_nil ?_
          intro w1 hw1
          have hb1 := of_regrown hw1
          clear hw1 r0 r1 r2 r3 rc
          go_wp2
          go_roundw
          case rel => exact ⟨1, by omega, rfl, okTo.first Hp.out hok, hbB.trans (hb1.mono hbB.size)⟩
          case measure => simp [intOf]; omega
        · obtain ⟨j, rfl⟩ : ∃ j, k = j + 1 := ⟨k - 1, by omega⟩
          obtain ⟨q, hq⟩ := get_lt (l := xs) (k := j) (by have := Hn.out; omega)
          obtain ⟨b', bo', e', _, _, _, _, d2⟩ := (hC.up hb).point hq
          cases e'
          have d2' := kc hbx hbl d2
          by_cases ht : p.T ≤ q.T
          · have H := Lib.hid (validS_late hp hq ht)
            have hd : decide (p.T ≤ q.T) = true := by simpa using ht
            clear hp hq
            go_wp2
            have r0 := cell_regrown f0
            have r1 := cell_regrown f1
            have r2 := cell_regrown f2
            have r3 := cell_regrown f3
            have r4 := cell_regrown d2'
            have rc : ∀ d os, Calls Try.prog 56 #[.agg #[.int .i64 p.X, .int .i64 p.Y, .int .i64 p.T]] (Sort.grow (redrawn (wr.alloc (.cells #[.int .i64 p.X, .int .i64 p.Y, .int .i64 p.T] 90)) d) os) fun e w'' => e = .returned (.bool true) ∧ ∃ pz : Regrown, w'' = Sort.grow (redrawn (wr.alloc (.cells #[.int .i64 p.X, .int .i64 p.Y, .int .i64 p.T] 90)) pz.d) pz.os :=
              fun d os => Calls.regrown_of (by rw [← hok]; exact validPoint_any p _)
            refine wp_region_quiet_below (by kernel_rfl) (by kernel_rfl) ?_
            repeat (first | go_big_quiet_step (((go_at_call 56; exact rc _ _))) | quiet_step (((go_at_call 56; exact rc _ _))))
            refine wpQuiet_nil ?_
            intro w1 hw1
            have hb1 := of_regrown hw1
            clear hw1 r0 r1 r2 r3 r4 rc
            clear hd
            go_wp2
            go_ret
            exact ⟨by rw [H.out]; rfl, hba.trans ((hbB.trans (hb1.mono hbB.size)).mono hba.size)⟩
          · have hd : decide (p.T ≤ q.T) = false := by simpa using ht
            have Hq := Lib.hid hq
            clear hp hq
            go_wp2
            have r0 := cell_regrown f0
            have r1 := cell_regrown f1
            have r2 := cell_regrown f2
            have r3 := cell_regrown f3
            have r4 := cell_regrown d2'
            have rc : ∀ d os, Calls Try.prog 56 #[.agg #[.int .i64 p.X, .int .i64 p.Y, .int .i64 p.T]] (Sort.grow (redrawn (wr.alloc (.cells #[.int .i64 p.X, .int .i64 p.Y, .int .i64 p.T] 90)) d) os) fun e w'' => e = .returned (.bool true) ∧ ∃ pz : Regrown, w'' = Sort.grow (redrawn (wr.alloc (.cells #[.int .i64 p.X, .int .i64 p.Y, .int .i64 p.T] 90)) pz.d) pz.os :=
              fun d os => Calls.regrown_of (by rw [← hok]; exact validPoint_any p _)
            refine wp_region_quiet_below (by kernel_rfl) (by kernel_rfl) ?_
            repeat (first | go_big_quiet_step (((go_at_call 56; exact rc _ _))) | quiet_step (((go_at_call 56; exact rc _ _))))
            refine wpQuiet_nil ?_
            intro w1 hw1
            have hb1 := of_regrown hw1
            clear hw1 r0 r1 r2 r3 r4 rc
            clear hd
            go_wp2
            go_roundw
            case rel => exact ⟨j + 1 + 1, by omega, by go_num, okTo.succ ho.out Hp.out Hq.out hok (by omega), hbB.trans (hb1.mono hbB.size)⟩
            case measure => simp [intOf]; omega
      · have hok : okP p = false := by simpa using hok
        have H := Lib.hid (validS_bad hp hok)
        clear hp
        go_wp2
        have r0 := cell_regrown f0
        have r1 := cell_regrown f1
        have r2 := cell_regrown f2
        have r3 := cell_regrown f3
        have rc : ∀ d os, Calls Try.prog 56 #[.agg #[.int .i64 p.X, .int .i64 p.Y, .int .i64 p.T]] (Sort.grow (redrawn (wr.alloc (.cells #[.int .i64 p.X, .int .i64 p.Y, .int .i64 p.T] 90)) d) os) fun e w'' => e = .returned (.bool false) ∧ ∃ pz : Regrown, w'' = Sort.grow (redrawn (wr.alloc (.cells #[.int .i64 p.X, .int .i64 p.Y, .int .i64 p.T] 90)) pz.d) pz.os :=
          fun d os => Calls.regrown_of (by rw [← hok]; exact validPoint_any p _)
        refine wp_region_quiet_below (by kernel_rfl) (by kernel_rfl) ?_
        repeat (first | go_big_quiet_step (((go_at_call 56; exact rc _ _))) | quiet_step (((go_at_call 56; exact rc _ _))))
        refine wpQuiet_nil ?_
        intro w1 hw1
        have hb1 := of_regrown hw1
        clear hw1 r0 r1 r2 r3 rc
        go_wp2
        go_ret
        exact ⟨by rw [H.out]; rfl, hba.trans ((hbB.trans (hb1.mono hbB.size)).mono hba.size)⟩
    · obtain rfl : k = n := by omega
      obtain rfl : k = xs.length := Hn.out
      have H := Lib.hid (validS_end ho.out)
      by_cases h1 : 1 ≤ xs.length
      · have H2 := Lib.hid (show inR xs.length 1 60 = decide ((xs.length : Int) ≤ 60) by unfold inR; rw [Bool.eq_iff_iff]; simp; omega)
        go_wp2
        go_ret
        exact ⟨by rw [H.out, H2.out]; first | rfl | simp, hba.trans (hb.mono hba.size)⟩
      · have H2 := Lib.hid (show inR xs.length 1 60 = false by unfold inR; simp; omega)
        go_wp2
        go_ret
        exact ⟨by rw [H.out, H2.out]; first | rfl | simp, hba.trans (hb.mono hba.size)⟩
end Go.Proofs.Ytjfopofcbopfjaa
