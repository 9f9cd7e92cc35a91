/- Valid trained templates, the program's. No conditions. -/
import Derived.Test.YtjfopofcbopfjaaTrOk
namespace Go.Proofs.Ytjfopofcbopfjaa
open Go.RowKit
set_option linter.unusedVariables false

set_option maxHeartbeats 1600000 in
theorem equalFuncNear_any (v v' : Value) (xs ys : List Feat) (w : World) (hx : Sl featR w (Old w) v xs) (hy : Sl featR w (Old w) v' ys) (hxs : ∀ (i : Nat) (x : Feat), xs[i]? = some x → okF x = true) (hys : ∀ (i : Nat) (x : Feat), ys[i]? = some x → okF x = true) :
    Calls Try.prog 49 #[v, v', .func (.func 50) #[] #[]] w fun e w' => e = .returned (.bool (eqAll nearB xs ys)) ∧ Below w.heap.size w w' := by
  obtain ⟨A, c, rfl, hc, hm, hC⟩ := hx
  obtain ⟨A', c', rfl, hc', hm', hC'⟩ := hy
  have hs := Nat.le_trans hc hm
  have hs' := Nat.le_trans hc' hm'
  unfold maxLen at hs hs'
  clear hc hm hc' hm'
  by_cases hl : xs.length = ys.length
  · obtain ⟨n, hn⟩ : ∃ n, n = xs.length := ⟨_, rfl⟩
    have Hl := Lib.hid (hn.trans hl)
    rw [← hl, ← hn]
    rw [← hn] at hs
    have Hn := Lib.hid hn
    clear hn hl hs'
    go_enter Try.func49, Try.ntmps49
    go_wp2
    go_loopw [17] (fun i wr => ∃ k : Nat, k ≤ n ∧ i = .int .i64 k ∧ Hid (∀ i x y, i < k → xs[i]? = some x → ys[i]? = some y → nearB x y = true) ∧ Below w.heap.size w wr) (fun i _ => n - (intOf i).toNat)
    case atStart => exact ⟨0, Nat.zero_le _, rfl, fun i x y hi => absurd hi (Nat.not_lt_zero _), Below.refl _ _⟩
    case round =>
      obtain ⟨k, hk, rfl, he, hb⟩ := hrel
      by_cases hlt : k < n
      · obtain ⟨x, hx⟩ := get_lt (l := xs) (k := k) (by have := Hn.out; omega)
        obtain ⟨y, hy⟩ := get_lt (l := ys) (k := k) (by have := Hl.out; omega)
        obtain ⟨b, o, rfl, _, hbl, c0, c1, c2⟩ := (hC.up hb).feat hx
        obtain ⟨b', o', rfl, _, hbl', d0, d1, d2⟩ := (hC'.up hb).feat hy
        have hrx : featR.rel wr (Old wr) [.int .i64 x.X, .int .i64 x.Y, .int .i64 x.D] x := rfl
        have hry : featR.rel wr (Old wr) [.int .i64 y.X, .int .i64 y.Y, .int .i64 y.D] y := rfl
        have hbx := ((Below.refl wr.heap.size wr).alloc (Nat.le_refl _) (.cells [.int .i64 x.X, .int .i64 x.Y, .int .i64 x.D].toArray 66))
        have e0 := kc hbx hbl' d0
        have e1 := kc hbx hbl' d1
        have e2 := kc hbx hbl' d2
        have hbb := hbx.alloc (by simp) (.cells [.int .i64 y.X, .int .i64 y.Y, .int .i64 y.D].toArray 66)
        have hcon := near_any x y ((wr.alloc (.cells [.int .i64 x.X, .int .i64 x.Y, .int .i64 x.D].toArray 66)).alloc (.cells [.int .i64 y.X, .int .i64 y.Y, .int .i64 y.D].toArray 66)) (hxs k x hx) (hys k y hy)
        have Hx := Lib.hid hx
        have Hy := Lib.hid hy
        clear hx hy
        by_cases hp : nearB x y = true
        · rw [hp] at hcon
          have Hp := Lib.hid hp
          have Hc := Lib.hid hcon
          clear hcon hp
          go_wp2_with fail
          refine Hc.out.mono ?_
          rintro e w1 ⟨rfl, hb1⟩
          go_wp2_with fail
          go_roundw
          case rel => exact ⟨k + 1, by omega, by go_num, (fun i x' y' hi hx' hy' => by
            by_cases e : i = k
            · subst e; rw [Hx.out] at hx'; rw [Hy.out] at hy'; cases hx'; cases hy'; exact Hp.out
            · exact he.out i x' y' (by omega) hx' hy'), (hb.trans (hbb.mono hb.size)).trans (hb1.mono (Nat.le_trans hb.size hbb.size))⟩
          case measure => simp [intOf]; omega
        · have hp : nearB x y = false := by simpa using hp
          have H := Lib.hid (eqAll_bad Hx.out Hy.out hp)
          rw [hp] at hcon
          have Hc := Lib.hid hcon
          clear hcon hp
          go_wp2_with fail
          refine Hc.out.mono ?_
          rintro e w1 ⟨rfl, hb1⟩
          go_wp2_with fail
          go_ret
          exact ⟨by rw [H.out]; rfl, (hb.trans (hbb.mono hb.size)).trans (hb1.mono (Nat.le_trans hb.size hbb.size))⟩
      · obtain rfl : k = n := by omega
        have H := Lib.hid (show eqAll nearB xs ys = true from eqAll_end (by rw [← Hn.out, ← Hl.out]) (by rw [← Hn.out]; exact he.out))
        go_wp2
        go_ret
        exact ⟨by rw [H.out]; rfl, hb⟩
  · have H := Lib.hid (eqAll_len (r := nearB) (xs := xs) (ys := ys) hl)
    go_enter Try.func49, Try.ntmps49
    go_wp2
    go_ret
    exact ⟨by rw [H.out]; rfl, Below.refl _ _⟩


theorem specValidTrained_any (cs : List Value) (x : Trained) (w : World) (hx : trainedR.rel w (Old w) cs x) :
    Calls Try.prog 25 #[.agg cs.toArray] w fun e w' => e = .returned (.bool (okTr x)) ∧ Below w.heap.size w w' := by
  have ha := At.box trainedR hx 31
  have hba := (Below.refl w.heap.size w).alloc (Nat.le_refl _) (.cells cs.toArray 31)
  obtain ⟨v1, v2, rfl, bd, h1, h2⟩ := hx
  go_enter Try.func25, Try.ntmps25
  go_wp2_with fail
  have hh := l24Ok_any _ _ _ x _ ha
  refine hh.mono ?_
  clear hh
  rintro e w1 ⟨rfl, hb1⟩
  go_wp2_with fail
  go_ret
  exact ⟨rfl, hba.trans (hb1.mono hba.size)⟩

set_option maxHeartbeats 3200000 in
theorem implValidTrained_any (cs : List Value) (x : Trained) (w : World) (hx : trainedR.rel w (Old w) cs x) :
    Calls Try.prog 26 #[.agg cs.toArray] w fun e w' => e = .returned (.bool (okTr x)) ∧ Below w.heap.size w w' := by
  have ha := At.box trainedR hx 31
  have hba := (Below.refl w.heap.size w).alloc (Nat.le_refl _) (.cells cs.toArray 31)
  obtain ⟨v1, v2, rfl, hb0, hxs, hys⟩ := hx
  have hx0 := hxs
  have hy0 := hys
  obtain ⟨Axs, axs, rfl, _⟩ := hx0
  obtain ⟨Ays, ays, rfl, _⟩ := hy0
  obtain ⟨s, xs, ys, ct, rfl⟩ : ∃ s xs ys ct, x = ⟨s, xs, ys, ct⟩ := ⟨_, _, _, _, rfl⟩
  simp only at hxs hys hb0 ha hba ⊢
  by_cases g1 : okLabel s = true
  rotate_left
  · have g1 : okLabel s = false := by simpa using g1
    have H := Lib.hid (show okTr ⟨s, xs, ys, ct⟩ = false by unfold okTr; rw [g1]; rfl)
    go_enter Try.func26, Try.ntmps26
    go_wp2_with fail
    refine (implIsLabel_any s _ hb0).mono ?_
    rintro e w' ⟨rfl, rfl⟩
    rw [g1]
    go_wp2_with fail
    go_ret
    exact ⟨by rw [H.out]; rfl, hba⟩
  by_cases g2 : okSeq xs = true
  rotate_left
  · have g2 : okSeq xs = false := by simpa using g2
    have H := Lib.hid (show okTr ⟨s, xs, ys, ct⟩ = false by unfold okTr; simp only [g2, Bool.false_and, Bool.and_false])
    go_enter Try.func26, Try.ntmps26
    go_wp2_with fail
    refine (implIsLabel_any s _ hb0).mono ?_
    rintro e w' ⟨rfl, rfl⟩
    rw [g1]
    go_wp2_with fail
    have hh := ValidSeq_any _ xs _ (hxs.up hba)
    refine hh.mono ?_
    clear hh
    rintro e w1 ⟨rfl, hb1⟩
    rw [g2]
    have B1 := hba.trans (hb1.mono hba.size)
    have a1 := (ha).up hb1
    have c01 := a1.2.2 0 _ rfl
    have c11 := a1.2.2 1 _ rfl
    have c21 := a1.2.2 2 _ rfl
    have c31 := a1.2.2 3 _ rfl
    simp only [Nat.zero_add] at c01 c11 c21 c31
    go_wp2_with fail
    go_ret
    exact ⟨by rw [H.out]; rfl, B1⟩
  by_cases g3 : okSeq ys = true
  rotate_left
  · have g3 : okSeq ys = false := by simpa using g3
    have H := Lib.hid (show okTr ⟨s, xs, ys, ct⟩ = false by unfold okTr; simp only [g3, Bool.false_and, Bool.and_false])
    go_enter Try.func26, Try.ntmps26
    go_wp2_with fail
    refine (implIsLabel_any s _ hb0).mono ?_
    rintro e w' ⟨rfl, rfl⟩
    rw [g1]
    go_wp2_with fail
    have hh := ValidSeq_any _ xs _ (hxs.up hba)
    refine hh.mono ?_
    clear hh
    rintro e w1 ⟨rfl, hb1⟩
    rw [g2]
    have B1 := hba.trans (hb1.mono hba.size)
    have a1 := (ha).up hb1
    have c01 := a1.2.2 0 _ rfl
    have c11 := a1.2.2 1 _ rfl
    have c21 := a1.2.2 2 _ rfl
    have c31 := a1.2.2 3 _ rfl
    simp only [Nat.zero_add] at c01 c11 c21 c31
    go_wp2_with fail
    have hh := ValidSeq_any _ ys _ (hys.up B1)
    refine hh.mono ?_
    clear hh
    rintro e w2 ⟨rfl, hb2⟩
    rw [g3]
    have B2 := B1.trans (hb2.mono B1.size)
    have a2 := (a1).up hb2
    have c02 := a2.2.2 0 _ rfl
    have c12 := a2.2.2 1 _ rfl
    have c22 := a2.2.2 2 _ rfl
    have c32 := a2.2.2 3 _ rfl
    simp only [Nat.zero_add] at c02 c12 c22 c32
    go_wp2_with fail
    go_ret
    exact ⟨by rw [H.out]; rfl, B2⟩
  have G2 := Lib.hid g2
  have G3 := Lib.hid g3
  by_cases g4 : eqAll nearB xs ys = true
  rotate_left
  · have g4 : eqAll nearB xs ys = false := by simpa using g4
    have H := Lib.hid (show okTr ⟨s, xs, ys, ct⟩ = false by unfold okTr; simp only [g4, Bool.false_and, Bool.and_false])
    go_enter Try.func26, Try.ntmps26
    go_wp2_with fail
    refine (implIsLabel_any s _ hb0).mono ?_
    rintro e w' ⟨rfl, rfl⟩
    rw [g1]
    go_wp2_with fail
    have hh := ValidSeq_any _ xs _ (hxs.up hba)
    refine hh.mono ?_
    clear hh
    rintro e w1 ⟨rfl, hb1⟩
    rw [g2]
    have B1 := hba.trans (hb1.mono hba.size)
    have a1 := (ha).up hb1
    have c01 := a1.2.2 0 _ rfl
    have c11 := a1.2.2 1 _ rfl
    have c21 := a1.2.2 2 _ rfl
    have c31 := a1.2.2 3 _ rfl
    simp only [Nat.zero_add] at c01 c11 c21 c31
    go_wp2_with fail
    have hh := ValidSeq_any _ ys _ (hys.up B1)
    refine hh.mono ?_
    clear hh
    rintro e w2 ⟨rfl, hb2⟩
    rw [g3]
    have B2 := B1.trans (hb2.mono B1.size)
    have a2 := (a1).up hb2
    have c02 := a2.2.2 0 _ rfl
    have c12 := a2.2.2 1 _ rfl
    have c22 := a2.2.2 2 _ rfl
    have c32 := a2.2.2 3 _ rfl
    simp only [Nat.zero_add] at c02 c12 c22 c32
    go_wp2_with fail
    have hh := equalFuncNear_any _ _ xs ys _ (hxs.up B2) (hys.up B2) (fun i x h => okSeq_at G2.out h) (fun i x h => okSeq_at G3.out h)
    refine hh.mono ?_
    clear hh
    rintro e w3 ⟨rfl, hb3⟩
    rw [g4]
    have B3 := B2.trans (hb3.mono B2.size)
    have a3 := (a2).up hb3
    have c33 := a3.2.2 3 _ rfl
    simp only [Nat.zero_add] at c33
    go_wp2_with fail
    go_ret
    exact ⟨by rw [H.out]; rfl, B3⟩
  have H := Lib.hid (show okTr ⟨s, xs, ys, ct⟩ = inR ct 0 100 by unfold okTr; simp only [g1, g2, g3, g4, Bool.true_and])
  go_enter Try.func26, Try.ntmps26
  go_wp2_with fail
  refine (implIsLabel_any s _ hb0).mono ?_
  rintro e w' ⟨rfl, rfl⟩
  rw [g1]
  go_wp2_with fail
  have hh := ValidSeq_any _ xs _ (hxs.up hba)
  refine hh.mono ?_
  clear hh
  rintro e w1 ⟨rfl, hb1⟩
  rw [g2]
  have B1 := hba.trans (hb1.mono hba.size)
  have a1 := (ha).up hb1
  have c01 := a1.2.2 0 _ rfl
  have c11 := a1.2.2 1 _ rfl
  have c21 := a1.2.2 2 _ rfl
  have c31 := a1.2.2 3 _ rfl
  simp only [Nat.zero_add] at c01 c11 c21 c31
  go_wp2_with fail
  have hh := ValidSeq_any _ ys _ (hys.up B1)
  refine hh.mono ?_
  clear hh
  rintro e w2 ⟨rfl, hb2⟩
  rw [g3]
  have B2 := B1.trans (hb2.mono B1.size)
  have a2 := (a1).up hb2
  have c02 := a2.2.2 0 _ rfl
  have c12 := a2.2.2 1 _ rfl
  have c22 := a2.2.2 2 _ rfl
  have c32 := a2.2.2 3 _ rfl
  simp only [Nat.zero_add] at c02 c12 c22 c32
  go_wp2_with fail
  have hh := equalFuncNear_any _ _ xs ys _ (hxs.up B2) (hys.up B2) (fun i x h => okSeq_at G2.out h) (fun i x h => okSeq_at G3.out h)
  refine hh.mono ?_
  clear hh
  rintro e w3 ⟨rfl, hb3⟩
  rw [g4]
  have B3 := B2.trans (hb3.mono B2.size)
  have a3 := (a2).up hb3
  have c33 := a3.2.2 3 _ rfl
  simp only [Nat.zero_add] at c33
  go_wp2_with fail
  refine (within_any _ _ _ _).mono ?_
  rintro e w' ⟨rfl, rfl⟩
  go_wp2_with fail
  go_ret
  exact ⟨by rw [H.out]; rfl, B3⟩

end Go.Proofs.Ytjfopofcbopfjaa
