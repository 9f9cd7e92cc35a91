/- l24SameWriter, SameWriter: whether two writers are the same. No conditions. -/
import Derived.Test.YtjfopofcbopfjaaSameT
namespace Go.Proofs.Ytjfopofcbopfjaa
open Go.RowKit
set_option linter.unusedVariables false

theorem Cells.trainedAt {w : World} {A : Option Addr} {xs : List Trained} (h : Cells trainedR w (Old w) A xs) {i : Nat} {x : Trained} (hi : xs[i]? = some x) : ∃ b o cs, A = some ⟨b, o, none⟩ ∧ At trainedR w (Old w) b (o + i * 4) cs x := h.atElem hi

set_option maxHeartbeats 1600000 in
theorem l24SameWriter_any (b o b' o' : Nat) (cs ds : List Value) (x y : Writer) (w : World) (hx : At writerR w (Old w) b o cs x) (hy : At writerR w (Old w) b' o' ds y) :
    Calls Try.prog 42 #[.pointer (some ⟨b, o, none⟩), .pointer (some ⟨b', o', none⟩)] w (Quiet w (.bool (same x y))) := by
  obtain ⟨hb, ⟨v, rfl, h1⟩, hc⟩ := hx
  obtain ⟨hb', ⟨v', rfl, h1'⟩, hc'⟩ := hy
  obtain ⟨A, c, rfl, hl, hm, hC⟩ := h1
  obtain ⟨A', c', rfl, hl', hm', hC'⟩ := h1'
  have hs := Nat.le_trans hl hm
  have hs' := Nat.le_trans hl' hm'
  unfold maxLen at hs hs'
  have c0 := hc 0 _ rfl
  have c1 := hc 1 _ rfl
  have d0 := hc' 0 _ rfl
  have d1 := hc' 1 _ rfl
  simp only [Nat.add_zero] at c0 d0
  clear hc hc' hl hm hl' hm'
  obtain ⟨bx, xs, rfl⟩ : ∃ bx xs, x = ⟨bx, xs⟩ := ⟨x.Band, x.Trained, rfl⟩
  obtain ⟨by_, ys, rfl⟩ : ∃ bx xs, y = ⟨bx, xs⟩ := ⟨y.Band, y.Trained, rfl⟩
  simp only at c0 c1 d0 d1 hs hs' hC hC'
  by_cases e1 : bx = by_
  rotate_left
  · have H := Lib.hid (show same (Writer.mk bx xs) (Writer.mk by_ ys) = false from same_not (fun e => e1 (by injection e)))
    have g1 : (bx != by_) = true := by rw [bne_iff_ne]; exact e1
    clear e1
    go_enter Try.func42, Try.ntmps42
    go_wp2
    go_quiet (fail)
    go_wp2
    go_ret
    exact ⟨by rw [H.out]; rfl, _, rfl⟩
  subst e1
  by_cases e2 : xs.length = ys.length
  rotate_left
  · have H := Lib.hid (show same (Writer.mk bx xs) (Writer.mk bx ys) = false from same_not (fun e => e2 (by injection e with _ e; rw [e])))
    have g2 : ((xs.length : Int) != (ys.length : Int)) = true := by rw [bne_iff_ne]; omega
    have g3 : (xs.length != ys.length) = true := by rw [bne_iff_ne]; exact e2
    clear e2
    go_enter Try.func42, Try.ntmps42
    go_wp2
    go_quiet (fail)
    go_wp2
    go_ret
    exact ⟨by rw [H.out]; rfl, _, rfl⟩
  obtain ⟨n, hn⟩ : ∃ n, n = xs.length := ⟨_, rfl⟩
  have Hl := Lib.hid (hn.trans e2)
  rw [← hn] at hs c1
  rw [← e2, ← hn] at d1
  have Hn := Lib.hid hn
  clear hn e2 hs'
  go_enter Try.func42, Try.ntmps42
  go_wp2
  go_quiet (fail)
  go_wp2
  go_loopw [5] (fun i wr => ∃ k : Nat, k ≤ n ∧ i = .int .i64 k ∧ Hid (xs.take k = ys.take k) ∧ ∃ m, wr = w.drewN m) (fun i _ => n - (intOf i).toNat)
  case atStart => exact ⟨0, Nat.zero_le _, rfl, rfl, _, rfl⟩
  case round =>
    obtain ⟨k, hk, rfl, he, m, rfl⟩ := hrel
    by_cases hlt : k < n
    · obtain ⟨x, hx⟩ := get_lt (l := xs) (k := k) (by have := Hn.out; omega)
      obtain ⟨y, hy⟩ := get_lt (l := ys) (k := k) (by have := Hl.out; omega)
      obtain ⟨g, go, cs, rfl, ax⟩ := hC.trainedAt hx
      obtain ⟨g', go', cs', rfl, ay⟩ := hC'.trainedAt hy
      have Hx := Lib.hid hx
      have Hy := Lib.hid hy
      have hlt' : (k : Int) < (n : Int) := by omega
      clear hx hy
      by_cases hxy : x = y
      · have H := Lib.hid hxy
        have hsame := same_iff.2 hxy
        clear hxy
        go_wp2
        go_quiet ((go_at_call 30; exact quiet_add_q (l24Same_any _ _ _ _ _ _ x y _ (ax.drewN_ _) (ay.drewN_ _))))
        go_wp2
        go_roundw
        case rel => exact ⟨k + 1, by omega, by go_num, take_same_step he.out Hx.out (by rw [H.out]; exact Hy.out), _, rfl⟩
        case measure => simp [intOf]; omega
      · have H := Lib.hid hxy
        have hsame := same_not hxy
        clear hxy
        go_wp2
        go_quiet ((go_at_call 30; exact quiet_add_q (l24Same_any _ _ _ _ _ _ x y _ (ax.drewN_ _) (ay.drewN_ _))))
        go_wp2
        go_ret
        exact ⟨by rw [show same (Writer.mk bx xs) (Writer.mk bx ys) = false from same_not (fun e => by have h := not_same_at Hx.out Hy.out H.out; injection e with _ e; rw [same_iff.2 e] at h; cases h)]; rfl, _, by first | rfl | exact World.drewN_drewN _ _ _⟩
    · obtain rfl : k = n := by omega
      go_wp2
      go_ret
      refine ⟨?_, _, rfl⟩
      have h1 := he.out
      rw [List.take_of_length_le (by rw [← Hn.out]; exact Nat.le_refl _), List.take_of_length_le (by rw [← Hl.out]; exact Nat.le_refl _)] at h1
      rw [same_iff.2 (by rw [h1])]
      rfl

set_option maxHeartbeats 1600000 in
theorem equalFuncTrained_any (v v' : Value) (xs ys : List Trained) (w : World) (hx : Sl trainedR w (Old w) v xs) (hy : Sl trainedR w (Old w) v' ys) :
    Calls Try.prog 44 #[v, v', .func (.func 13) #[] #[]] w fun e w' => e = .returned (.bool (same xs ys)) ∧ Below w.heap.size w w' := by
  obtain ⟨A, c, rfl, hc, hm, hC⟩ := hx
  obtain ⟨A', c', rfl, hc', hm', hC'⟩ := hy
  have hs := Nat.le_trans hc hm
  have hs' := Nat.le_trans hc' hm'
  unfold maxLen at hs hs'
  clear hc hm hc' hm'
  by_cases hl : xs.length = ys.length
  · obtain ⟨n, hn⟩ : ∃ n, n = xs.length := ⟨_, rfl⟩
    have Hl := Lib.hid (hn.trans hl)
    rw [← hl, ← hn]
    rw [← hn] at hs
    have Hn := Lib.hid hn
    clear hn hl hs'
    go_enter Try.func44, Try.ntmps44
    go_wp2
    go_loopw [17] (fun i wr => ∃ k : Nat, k ≤ n ∧ i = .int .i64 k ∧ Hid (xs.take k = ys.take k) ∧ Below w.heap.size w wr) (fun i _ => n - (intOf i).toNat)
    case atStart => exact ⟨0, Nat.zero_le _, rfl, rfl, Below.refl _ _⟩
    case round =>
      obtain ⟨k, hk, rfl, he, hb⟩ := hrel
      by_cases hlt : k < n
      · obtain ⟨x, hx⟩ := get_lt (l := xs) (k := k) (by have := Hn.out; omega)
        obtain ⟨y, hy⟩ := get_lt (l := ys) (k := k) (by have := Hl.out; omega)
        obtain ⟨b, o, v1, v2, rfl, _, hbl, c0, c1, c2, c3, bd, h1, h2⟩ := (hC.up hb).trained hx
        obtain ⟨b', o', v1', v2', rfl, _, hbl', d0, d1, d2, d3, bd', h1', h2'⟩ := (hC'.up hb).trained hy
        have hrx : trainedR.rel wr (Old wr) [.string x.Label, v1, v2, .int .i64 x.Count] x := ⟨v1, v2, rfl, bd, h1, h2⟩
        have hry : trainedR.rel wr (Old wr) [.string y.Label, v1', v2', .int .i64 y.Count] y := ⟨v1', v2', rfl, bd', h1', h2'⟩
        obtain ⟨A1, a1, rfl, _⟩ := h1
        obtain ⟨A2, a2, rfl, _⟩ := h2
        obtain ⟨A1', a1', rfl, _⟩ := h1'
        obtain ⟨A2', a2', rfl, _⟩ := h2'
        have hbx := ((Below.refl wr.heap.size wr).alloc (Nat.le_refl _) (.cells [.string x.Label, .slice A1 x.Base.length a1, .slice A2 x.Feats.length a2, .int .i64 x.Count].toArray 31))
        have e0 := kc hbx hbl' d0
        have e1 := kc hbx hbl' d1
        have e2 := kc hbx hbl' d2
        have e3 := kc hbx hbl' d3
        have hbb := hbx.alloc (by simp) (.cells [.string y.Label, .slice A1' y.Base.length a1', .slice A2' y.Feats.length a2', .int .i64 y.Count].toArray 31)
        have Hx := Lib.hid hx
        have Hy := Lib.hid hy
        clear hx hy
        by_cases hxy : x = y
        · have H := Lib.hid hxy
          have hsame := same_iff.2 hxy
          clear hxy
          go_wp2_with fail
          have hh := implSameTrained_any _ _ x y _ (trainedR.up hrx hbb) (trainedR.up hry hbb)
          refine hh.mono ?_
          clear hh
          rintro e w1 ⟨rfl, hb1⟩
          rw [hsame]
          go_wp2_with fail
          go_roundw
          case rel => exact ⟨k + 1, by omega, by go_num, take_same_step he.out Hx.out (by rw [H.out]; exact Hy.out), (hb.trans (hbb.mono hb.size)).trans (hb1.mono (Nat.le_trans hb.size hbb.size))⟩
          case measure => simp [intOf]; omega
        · have H := Lib.hid hxy
          have hsame := same_not hxy
          clear hxy
          go_wp2_with fail
          have hh := implSameTrained_any _ _ x y _ (trainedR.up hrx hbb) (trainedR.up hry hbb)
          refine hh.mono ?_
          clear hh
          rintro e w1 ⟨rfl, hb1⟩
          rw [hsame]
          go_wp2_with fail
          go_ret
          exact ⟨by rw [not_same_at Hx.out Hy.out H.out]; rfl, (hb.trans (hbb.mono hb.size)).trans (hb1.mono (Nat.le_trans hb.size hbb.size))⟩
      · obtain rfl : k = n := by omega
        go_wp2
        go_ret
        refine ⟨?_, hb⟩
        have h1 := he.out
        rw [List.take_of_length_le (by rw [← Hn.out]; exact Nat.le_refl _), List.take_of_length_le (by rw [← Hl.out]; exact Nat.le_refl _)] at h1
        rw [same_iff.2 h1]
        rfl
  · have H := Lib.hid (same_len (x := xs) (y := ys) hl)
    go_enter Try.func44, Try.ntmps44
    go_wp2
    go_ret
    exact ⟨by rw [H.out]; rfl, Below.refl _ _⟩

set_option maxHeartbeats 800000 in
theorem specSameWriter_any (cs ds : List Value) (x y : Writer) (w : World) (hx : writerR.rel w (Old w) cs x) (hy : writerR.rel w (Old w) ds y) :
    Calls Try.prog 21 #[.agg cs.toArray, .agg ds.toArray] w fun e w' => e = .returned (.bool (same x y)) ∧ Below w.heap.size w w' := by
  have hx1 := At.box writerR hx 53
  have hy1 := At.box writerR (writerR.up hy ((Below.refl _ _).alloc (Nat.le_refl _) (.cells cs.toArray 53))) 53
  have hx2 := hx1.up ((Below.refl _ _).alloc (Nat.le_refl _) (.cells ds.toArray 53))
  simp only [World.size_alloc] at hy1
  obtain ⟨v1, rfl, h1⟩ := hx
  obtain ⟨v1', rfl, h1'⟩ := hy
  clear hx1
  go_enter Try.func21, Try.ntmps21
  go_wp2_with fail
  refine (l24SameWriter_any _ _ _ _ _ _ x y _ hx2 hy1).mono ?_
  rintro e w1 ⟨rfl, n, rfl⟩
  go_wp2
  go_ret
  exact ⟨rfl, below_drewN (((Below.refl _ _).alloc (Nat.le_refl _) _).alloc (by simp) _) n⟩

set_option maxHeartbeats 800000 in
theorem implSameWriter_any (cs ds : List Value) (x y : Writer) (w : World) (hx : writerR.rel w (Old w) cs x) (hy : writerR.rel w (Old w) ds y) :
    Calls Try.prog 23 #[.agg cs.toArray, .agg ds.toArray] w fun e w' => e = .returned (.bool (same x y)) ∧ Below w.heap.size w w' := by
  obtain ⟨v1, rfl, h1⟩ := hx
  obtain ⟨v1', rfl, h1'⟩ := hy
  have hbb := ((Below.refl w.heap.size w).alloc (Nat.le_refl _) (.cells [.int .i64 x.Band, v1].toArray 53)).alloc (by simp) (.cells [.int .i64 y.Band, v1'].toArray 53)
  by_cases e1 : x.Band = y.Band
  rotate_left
  · have H := Lib.hid (show same x y = false from same_not (fun e => e1 (by rw [e])))
    have g1 : (x.Band == y.Band) = false := by rw [beq_eq_false_iff_ne]; exact e1
    clear e1
    go_enter Try.func23, Try.ntmps23
    go_wp2_with fail
    go_ret
    exact ⟨by rw [H.out]; rfl, hbb⟩
  have H := Lib.hid (show same x y = same x.Trained y.Trained by rw [Bool.eq_iff_iff, same_iff, same_iff]; cases x; cases y; simp_all)
  have g1 : (x.Band == y.Band) = true := by rw [beq_iff_eq]; exact e1
  clear e1
  go_enter Try.func23, Try.ntmps23
  go_wp2_with fail
  have hh := equalFuncTrained_any _ _ x.Trained y.Trained _ (h1.up hbb) (h1'.up hbb)
  refine hh.mono ?_
  clear hh
  rintro e w1 ⟨rfl, hb1⟩
  go_wp2_with fail
  go_ret
  exact ⟨by rw [H.out]; rfl, hbb.trans (hb1.mono hbb.size)⟩
end Go.Proofs.Ytjfopofcbopfjaa
