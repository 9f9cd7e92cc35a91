/- l11SameFeats and slices.Equal at []Feat: whether two lists of features are the same. No conditions. -/
import Derived.Test.YtjfopofcbopfjaaTypA
import Derived.Test.YtjfopofcbopfjaaMem2
import Derived.Laws.StructEq
namespace Go.Proofs.Ytjfopofcbopfjaa
open Go.RowKit
set_option linter.unusedVariables false


theorem Try.stoodFeat : Try.prog.stoodInHeld 66 = false := by kernel_rfl
theorem Try.guardFeat : Try.prog.eqGuardType Try.prog.depth 66 = false := by kernel_rfl
theorem Try.eqlFeat (x y : Feat) (d : Nat) (w : World) : (Op.equalIn (d + 2) 66 (.agg #[.int .i64 x.X, .int .i64 x.Y, .int .i64 x.D]) (.agg #[.int .i64 y.X, .int .i64 y.Y, .int .i64 y.D])).run Try.prog w = .ok (same x y) w := by
  have hu := Try.underlying66
  have hi := Try.underlying2
  rw [run_equalIn_struct w _ _ _ _ (by unfold Program.fieldsOf; rw [hu]) Try.stoodFeat]
  unfold Program.fieldsOf
  rw [hu]
  have hs : same x y = (x.X == y.X && (x.Y == y.Y && x.D == y.D)) := by
    unfold same
    cases x; cases y
    rw [Bool.eq_iff_iff]
    simp
  rw [hs]
  simp [Op.eqFields, go_sem, hi]
  by_cases h1 : x.X = y.X <;> by_cases h2 : x.Y = y.Y <;> by_cases h3 : x.D = y.D <;> simp [h1, h2, h3]
theorem Try.neqFeat (x y : Feat) (w : World) : (binOp .neq 66 (.agg #[.int .i64 x.X, .int .i64 x.Y, .int .i64 x.D]) (.agg #[.int .i64 y.X, .int .i64 y.Y, .int .i64 y.D])).run Try.prog w = .ok (.bool (!same x y)) w := by
  rw [run_neq_struct, Try.eqlFeat x y 9998]
  rfl

set_option maxHeartbeats 800000 in
theorem l11SameFeats_any (v v' : Value) (xs ys : List Feat) (w : World) (hx : Sl featR w (Old w) v xs) (hy : Sl featR w (Old w) v' ys) :
    Calls Try.prog 51 #[v, v'] w (Quiet w (.bool (same xs ys))) := by
  obtain ⟨A, c, rfl, hc, hm, hC⟩ := hx
  obtain ⟨A', c', rfl, hc', hm', hC'⟩ := hy
  have hs := Nat.le_trans hc hm
  have hs' := Nat.le_trans hc' hm'
  unfold maxLen at hs hs'
  clear hc hm hc' hm'
  by_cases hl : xs.length = ys.length
  · obtain ⟨n, hn⟩ : ∃ n, n = xs.length := ⟨_, rfl⟩
    have Hl := Lib.hid (hn.trans hl)
    rw [← hl, ← hn]
    rw [← hn] at hs
    have Hn := Lib.hid hn
    clear hn hl hs'
    go_enter Try.func51, Try.ntmps51
    go_wp2
    go_loopw [5] (fun i wr => ∃ k : Nat, k ≤ n ∧ i = .int .i64 k ∧ Hid (xs.take k = ys.take k) ∧ ∃ m, wr = w.drewN m) (fun i _ => n - (intOf i).toNat)
    case atStart => exact ⟨0, Nat.zero_le _, rfl, rfl, 0, rfl⟩
    case round =>
      obtain ⟨k, hk, rfl, he, m, rfl⟩ := hrel
      by_cases hlt : k < n
      · obtain ⟨x, hx⟩ := get_lt (l := xs) (k := k) (by have := Hn.out; omega)
        obtain ⟨y, hy⟩ := get_lt (l := ys) (k := k) (by have := Hl.out; omega)
        obtain ⟨b, o, rfl, _, hbl, c0, c1, c2⟩ := hC.feat hx
        obtain ⟨b', o', rfl, _, hbl', d0, d1, d2⟩ := hC'.feat hy
        have Hx := Lib.hid hx
        have Hy := Lib.hid hy
        have hlt' : (k : Int) < (n : Int) := by omega
        have hne := fun W => Try.neqFeat x y W
        have hgd := Try.guardFeat
        clear hx hy
        by_cases hxy : x = y
        · have H := Lib.hid hxy
          have hsame := same_iff.2 hxy
          clear hxy
          go_wp2
          go_quiet (fail)
          clear hne hgd hlt'
          go_wp2
          go_roundw
          case rel => exact ⟨k + 1, by omega, by go_num, take_same_step he.out Hx.out (by rw [H.out]; exact Hy.out), _, rfl⟩
          case measure => simp [intOf]; omega
        · have H := Lib.hid hxy
          have hsame := same_not hxy
          clear hxy
          go_wp2
          go_quiet (fail)
          clear hne hgd hlt'
          go_wp2
          go_ret
          exact ⟨by rw [not_same_at Hx.out Hy.out H.out]; rfl, _, World.drewN_drewN _ _ _⟩
      · obtain rfl : k = n := by omega
        go_wp2
        go_ret
        refine ⟨?_, _, rfl⟩
        have h1 := he.out
        rw [List.take_of_length_le (by rw [← Hn.out]; exact Nat.le_refl _), List.take_of_length_le (by rw [← Hl.out]; exact Nat.le_refl _)] at h1
        rw [same_iff.2 h1]
        rfl
  · have H := Lib.hid (same_len (x := xs) (y := ys) hl)
    go_enter Try.func51, Try.ntmps51
    go_wp2
    go_ret
    exact ⟨by rw [H.out]; rfl, 0, rfl⟩
set_option maxHeartbeats 800000 in
theorem equalFeat_any (v v' : Value) (xs ys : List Feat) (w : World) (hx : Sl featR w (Old w) v xs) (hy : Sl featR w (Old w) v' ys) :
    Calls Try.prog 32 #[v, v'] w (Quiet w (.bool (same xs ys))) := by
  obtain ⟨A, c, rfl, hc, hm, hC⟩ := hx
  obtain ⟨A', c', rfl, hc', hm', hC'⟩ := hy
  have hs := Nat.le_trans hc hm
  have hs' := Nat.le_trans hc' hm'
  unfold maxLen at hs hs'
  clear hc hm hc' hm'
  by_cases hl : xs.length = ys.length
  · obtain ⟨n, hn⟩ : ∃ n, n = xs.length := ⟨_, rfl⟩
    have Hl := Lib.hid (hn.trans hl)
    rw [← hl, ← hn]
    rw [← hn] at hs
    have Hn := Lib.hid hn
    clear hn hl hs'
    go_enter Try.func32, Try.ntmps32
    go_wp2
    go_loopw [13] (fun i wr => ∃ k : Nat, k ≤ n ∧ i = .int .i64 k ∧ Hid (xs.take k = ys.take k) ∧ ∃ m, wr = w.drewN m) (fun i _ => n - (intOf i).toNat)
    case atStart => exact ⟨0, Nat.zero_le _, rfl, rfl, 0, rfl⟩
    case round =>
      obtain ⟨k, hk, rfl, he, m, rfl⟩ := hrel
      by_cases hlt : k < n
      · obtain ⟨x, hx⟩ := get_lt (l := xs) (k := k) (by have := Hn.out; omega)
        obtain ⟨y, hy⟩ := get_lt (l := ys) (k := k) (by have := Hl.out; omega)
        obtain ⟨b, o, rfl, _, hbl, c0, c1, c2⟩ := hC.feat hx
        obtain ⟨b', o', rfl, _, hbl', d0, d1, d2⟩ := hC'.feat hy
        have Hx := Lib.hid hx
        have Hy := Lib.hid hy
        have hlt' : (k : Int) < (n : Int) := by omega
        have hne := fun W => Try.neqFeat x y W
        have hgd := Try.guardFeat
        clear hx hy
        by_cases hxy : x = y
        · have H := Lib.hid hxy
          have hsame := same_iff.2 hxy
          clear hxy
          go_wp2
          go_quiet (fail)
          clear hne hgd hlt'
          go_wp2
          go_roundw
          case rel => exact ⟨k + 1, by omega, by go_num, take_same_step he.out Hx.out (by rw [H.out]; exact Hy.out), _, rfl⟩
          case measure => simp [intOf]; omega
        · have H := Lib.hid hxy
          have hsame := same_not hxy
          clear hxy
          go_wp2
          go_quiet (fail)
          clear hne hgd hlt'
          go_wp2
          go_ret
          exact ⟨by rw [not_same_at Hx.out Hy.out H.out]; rfl, _, World.drewN_drewN _ _ _⟩
      · obtain rfl : k = n := by omega
        go_wp2
        go_ret
        refine ⟨?_, _, rfl⟩
        have h1 := he.out
        rw [List.take_of_length_le (by rw [← Hn.out]; exact Nat.le_refl _), List.take_of_length_le (by rw [← Hl.out]; exact Nat.le_refl _)] at h1
        rw [same_iff.2 h1]
        rfl
  · have H := Lib.hid (same_len (x := xs) (y := ys) hl)
    go_enter Try.func32, Try.ntmps32
    go_wp2
    go_ret
    exact ⟨by rw [H.out]; rfl, 0, rfl⟩
end Go.Proofs.Ytjfopofcbopfjaa
