/- Valid trained templates. No conditions. -/
import Derived.Test.YtjfopofcbopfjaaNear
namespace Go.Proofs.Ytjfopofcbopfjaa
open Go.RowKit
set_option linter.unusedVariables false

/-- Whether a trained template is valid. -/
def okTr (t : Trained) : Bool := okLabel t.Label && (okSeq t.Base && (okSeq t.Feats && (eqAll nearB t.Base t.Feats && inR t.Count 0 100)))
theorem okSeq_at {xs : List Feat} (h : okSeq xs = true) {k : Nat} {p : Feat} (hp : xs[k]? = some p) : okF p = true := by
  unfold okSeq at h
  rw [Bool.and_eq_true, List.all_eq_true] at h
  exact h.2 p (List.mem_of_getElem? hp)

set_option maxHeartbeats 3200000 in
theorem l24Ok_any (g o : Nat) (cs : List Value) (x : Trained) (w : World) (hx : At trainedR w (Old w) g o cs x) :
    Calls Try.prog 46 #[.pointer (some ⟨g, o, none⟩)] w fun e w' => e = .returned (.bool (okTr x)) ∧ Below w.heap.size w w' := by
  obtain ⟨hg, ⟨v1, v2, rfl, hb1, hxs, hys⟩, hc⟩ := hx
  have hx0 := hxs
  have hy0 := hys
  obtain ⟨Axs, axs, rfl, hl, hm, hC⟩ := hx0
  obtain ⟨Ays, ays, rfl, hl', hm', hC'⟩ := hy0
  have c0 := hc 0 _ rfl
  have c1 := hc 1 _ rfl
  have c2 := hc 2 _ rfl
  have c3 := hc 3 _ rfl
  simp only [Nat.add_zero] at c0
  have hs := Nat.le_trans hl hm
  have hs' := Nat.le_trans hl' hm'
  unfold maxLen at hs hs'
  obtain ⟨s, xs, ys, ct, rfl⟩ : ∃ s xs ys ct, x = ⟨s, xs, ys, ct⟩ := ⟨_, _, _, _, rfl⟩
  simp only at c0 c1 c2 c3 hs hs' hxs hys hC hC' hb1 ⊢
  clear hc hl hm hl' hm'
  by_cases g1 : okLabel s = true
  rotate_left
  · have g1 : okLabel s = false := by simpa using g1
    have H := Lib.hid (show okTr ⟨s, xs, ys, ct⟩ = false by unfold okTr; rw [g1]; rfl)
    go_enter Try.func46, Try.ntmps46
    go_wp2
    have r0 := cell_regrown c0
    have r1 := cell_regrown c1
    have r2 := cell_regrown c2
    have r3 := cell_regrown c3
    have rc0 : ∀ d os, Calls Try.prog 58 #[.string s] (Sort.grow (redrawn w d) os) fun e w'' => e = .returned (.bool false) ∧ ∃ pz : Regrown, w'' = Sort.grow (redrawn w pz.d) pz.os :=
      fun d os => Calls.regrown_of (calls_same (by rw [← g1]; exact specIsLabel_any s _ hb1))
    refine wp_region_quiet_below (by kernel_rfl) (by kernel_rfl) ?_
    repeat (first | go_big_quiet_step ((((go_at_call 58; exact rc0 _ _)))) | quiet_step ((((go_at_call 58; exact rc0 _ _)))))
    refine wpQuiet_nil ?_
    intro w1 hwq
    have hb2 := of_regrown hwq
    clear hwq r0 r1 r2 r3 rc0
    go_wp2
    go_ret
    exact ⟨by rw [H.out]; rfl, hb2⟩
  by_cases g2 : okSeq xs = true
  rotate_left
  · have g2 : okSeq xs = false := by simpa using g2
    have H := Lib.hid (show okTr ⟨s, xs, ys, ct⟩ = false by unfold okTr; simp only [g2, Bool.false_and, Bool.and_false])
    go_enter Try.func46, Try.ntmps46
    go_wp2
    have r0 := cell_regrown c0
    have r1 := cell_regrown c1
    have r2 := cell_regrown c2
    have r3 := cell_regrown c3
    have rc0 : ∀ d os, Calls Try.prog 58 #[.string s] (Sort.grow (redrawn w d) os) fun e w'' => e = .returned (.bool true) ∧ ∃ pz : Regrown, w'' = Sort.grow (redrawn w pz.d) pz.os :=
      fun d os => Calls.regrown_of (calls_same (by rw [← g1]; exact specIsLabel_any s _ hb1))
    have rc1 : ∀ d os, Calls Try.prog 59 #[.slice Axs xs.length axs] (Sort.grow (redrawn w d) os) fun e w'' => e = .returned (.bool false) ∧ ∃ pz : Regrown, w'' = Sort.grow (redrawn w pz.d) pz.os :=
      fun d os => Calls.regrown_of (by rw [← g2]; exact l09Ok_any _ xs _ (hxs.up (below_regrown w d os)))
    refine wp_region_quiet_below (by kernel_rfl) (by kernel_rfl) ?_
    repeat (first | go_big_quiet_step (((first | (go_at_call 58; exact rc0 _ _) | (go_at_call 59; exact rc1 _ _)))) | quiet_step (((first | (go_at_call 58; exact rc0 _ _) | (go_at_call 59; exact rc1 _ _)))))
    refine wpQuiet_nil ?_
    intro w1 hwq
    have hb2 := of_regrown hwq
    clear hwq r0 r1 r2 r3 rc0 rc1
    go_wp2
    go_ret
    exact ⟨by rw [H.out]; rfl, hb2⟩
  by_cases g3 : okSeq ys = true
  rotate_left
  · have g3 : okSeq ys = false := by simpa using g3
    have H := Lib.hid (show okTr ⟨s, xs, ys, ct⟩ = false by unfold okTr; simp only [g3, Bool.false_and, Bool.and_false])
    go_enter Try.func46, Try.ntmps46
    go_wp2
    have r0 := cell_regrown c0
    have r1 := cell_regrown c1
    have r2 := cell_regrown c2
    have r3 := cell_regrown c3
    have rc0 : ∀ d os, Calls Try.prog 58 #[.string s] (Sort.grow (redrawn w d) os) fun e w'' => e = .returned (.bool true) ∧ ∃ pz : Regrown, w'' = Sort.grow (redrawn w pz.d) pz.os :=
      fun d os => Calls.regrown_of (calls_same (by rw [← g1]; exact specIsLabel_any s _ hb1))
    have rc1 : ∀ d os, Calls Try.prog 59 #[.slice Axs xs.length axs] (Sort.grow (redrawn w d) os) fun e w'' => e = .returned (.bool true) ∧ ∃ pz : Regrown, w'' = Sort.grow (redrawn w pz.d) pz.os :=
      fun d os => Calls.regrown_of (by rw [← g2]; exact l09Ok_any _ xs _ (hxs.up (below_regrown w d os)))
    have rc2 : ∀ d os, Calls Try.prog 59 #[.slice Ays ys.length ays] (Sort.grow (redrawn w d) os) fun e w'' => e = .returned (.bool false) ∧ ∃ pz : Regrown, w'' = Sort.grow (redrawn w pz.d) pz.os :=
      fun d os => Calls.regrown_of (by rw [← g3]; exact l09Ok_any _ ys _ (hys.up (below_regrown w d os)))
    refine wp_region_quiet_below (by kernel_rfl) (by kernel_rfl) ?_
    repeat (first | go_big_quiet_step (((first | (go_at_call 58; exact rc0 _ _) | (go_at_call 59; first | with_reducible exact rc1 _ _ | with_reducible exact rc2 _ _)))) | quiet_step (((first | (go_at_call 58; exact rc0 _ _) | (go_at_call 59; first | with_reducible exact rc1 _ _ | with_reducible exact rc2 _ _)))))
    refine wpQuiet_nil ?_
    intro w1 hwq
    have hb2 := of_regrown hwq
    clear hwq r0 r1 r2 r3 rc0 rc1 rc2
    go_wp2
    go_ret
    exact ⟨by rw [H.out]; rfl, hb2⟩
  by_cases g4 : xs.length = ys.length
  rotate_left
  · have H := Lib.hid (show okTr ⟨s, xs, ys, ct⟩ = false by unfold okTr; simp only [eqAll_len g4, Bool.false_and, Bool.and_false])
    have g5 : (xs.length != ys.length) = true := by rw [bne_iff_ne]; exact g4
    have g6 : ((xs.length : Int) != (ys.length : Int)) = true := by rw [bne_iff_ne]; omega
    clear g4
    go_enter Try.func46, Try.ntmps46
    go_wp2
    have r0 := cell_regrown c0
    have r1 := cell_regrown c1
    have r2 := cell_regrown c2
    have r3 := cell_regrown c3
    have rc0 : ∀ d os, Calls Try.prog 58 #[.string s] (Sort.grow (redrawn w d) os) fun e w'' => e = .returned (.bool true) ∧ ∃ pz : Regrown, w'' = Sort.grow (redrawn w pz.d) pz.os :=
      fun d os => Calls.regrown_of (calls_same (by rw [← g1]; exact specIsLabel_any s _ hb1))
    have rc1 : ∀ d os, Calls Try.prog 59 #[.slice Axs xs.length axs] (Sort.grow (redrawn w d) os) fun e w'' => e = .returned (.bool true) ∧ ∃ pz : Regrown, w'' = Sort.grow (redrawn w pz.d) pz.os :=
      fun d os => Calls.regrown_of (by rw [← g2]; exact l09Ok_any _ xs _ (hxs.up (below_regrown w d os)))
    have rc2 : ∀ d os, Calls Try.prog 59 #[.slice Ays ys.length ays] (Sort.grow (redrawn w d) os) fun e w'' => e = .returned (.bool true) ∧ ∃ pz : Regrown, w'' = Sort.grow (redrawn w pz.d) pz.os :=
      fun d os => Calls.regrown_of (by rw [← g3]; exact l09Ok_any _ ys _ (hys.up (below_regrown w d os)))
    refine wp_region_quiet_below (by kernel_rfl) (by kernel_rfl) ?_
    repeat (first | go_big_quiet_step (((first | (go_at_call 58; exact rc0 _ _) | (go_at_call 59; first | with_reducible exact rc1 _ _ | with_reducible exact rc2 _ _)))) | quiet_step (((first | (go_at_call 58; exact rc0 _ _) | (go_at_call 59; first | with_reducible exact rc1 _ _ | with_reducible exact rc2 _ _)))))
    refine wpQuiet_nil ?_
    intro w1 hwq
    have hb2 := of_regrown hwq
    clear hwq r0 r1 r2 r3 rc0 rc1 rc2
    go_wp2
    go_ret
    exact ⟨by rw [H.out]; rfl, hb2⟩
  obtain ⟨n, hn⟩ : ∃ n, n = xs.length := ⟨_, rfl⟩
  have Hl := Lib.hid (hn.trans g4)
  rw [← hn] at hs c1
  rw [← g4, ← hn] at c2
  have hys' : Sl featR w (Old w) (.slice Ays n ays) ys := by rw [hn, g4]; exact hys
  have hxs' : Sl featR w (Old w) (.slice Axs n axs) xs := by rw [hn]; exact hxs
  have Hn := Lib.hid hn
  have H1 := Lib.hid g1
  have H2 := Lib.hid g2
  have H3 := Lib.hid g3
  clear hn hs' g4 hxs hys
  go_enter Try.func46, Try.ntmps46
  go_wp2
  have r0 := cell_regrown c0
  have r1 := cell_regrown c1
  have r2 := cell_regrown c2
  have r3 := cell_regrown c3
  have rc0 : ∀ d os, Calls Try.prog 58 #[.string s] (Sort.grow (redrawn w d) os) fun e w'' => e = .returned (.bool true) ∧ ∃ pz : Regrown, w'' = Sort.grow (redrawn w pz.d) pz.os :=
    fun d os => Calls.regrown_of (calls_same (by rw [← g1]; exact specIsLabel_any s _ hb1))
  have rc1 : ∀ d os, Calls Try.prog 59 #[.slice Axs n axs] (Sort.grow (redrawn w d) os) fun e w'' => e = .returned (.bool true) ∧ ∃ pz : Regrown, w'' = Sort.grow (redrawn w pz.d) pz.os :=
    fun d os => Calls.regrown_of (by rw [← g2]; exact l09Ok_any _ xs _ (hxs'.up (below_regrown w d os)))
  have rc2 : ∀ d os, Calls Try.prog 59 #[.slice Ays n ays] (Sort.grow (redrawn w d) os) fun e w'' => e = .returned (.bool true) ∧ ∃ pz : Regrown, w'' = Sort.grow (redrawn w pz.d) pz.os :=
    fun d os => Calls.regrown_of (by rw [← g3]; exact l09Ok_any _ ys _ (hys'.up (below_regrown w d os)))
  refine wp_region_quiet_below (by kernel_rfl) (by kernel_rfl) ?_
  repeat (first | go_big_quiet_step (((first | (go_at_call 58; exact rc0 _ _) | (go_at_call 59; first | with_reducible exact rc1 _ _ | with_reducible exact rc2 _ _)))) | quiet_step (((first | (go_at_call 58; exact rc0 _ _) | (go_at_call 59; first | with_reducible exact rc1 _ _ | with_reducible exact rc2 _ _)))))
  refine wpQuiet_nil ?_
  intro w1 hwq
  have hb2 := of_regrown hwq
  clear hwq r0 r1 r2 r3 rc0 rc1 rc2
  clear g1 g2 g3
  go_wp2
  go_loopw [3] (fun i wr => ∃ k : Nat, k ≤ n ∧ i = .int .i64 k ∧ Hid (∀ i x y, i < k → xs[i]? = some x → ys[i]? = some y → nearB x y = true) ∧ Below w.heap.size w wr) (fun i _ => n - (intOf i).toNat)
  case atStart => exact ⟨0, Nat.zero_le _, rfl, fun i x y hi => absurd hi (Nat.not_lt_zero _), hb2⟩
  case round =>
    obtain ⟨k, hk, rfl, he, hb⟩ := hrel
    have e1 := kc hb hg c1
    have e2 := kc hb hg c2
    have e3 := kc hb hg c3
    by_cases hlt : k < n
    · obtain ⟨x, hx⟩ := get_lt (l := xs) (k := k) (by have := Hn.out; omega)
      obtain ⟨y, hy⟩ := get_lt (l := ys) (k := k) (by have := Hl.out; omega)
      obtain ⟨b, bo, rfl, _, hbl, p0, p1, p2⟩ := (hC.up hb).feat hx
      obtain ⟨b', bo', rfl, _, hbl', q0, q1, q2⟩ := (hC'.up hb).feat hy
      have Hx := Lib.hid hx
      have Hy := Lib.hid hy
      have ox := okSeq_at H2.out hx
      have oy := okSeq_at H3.out hy
      have hlt' : (k : Int) < (n : Int) := by omega
      clear hx hy c1 c2 c3
      by_cases hp : nearB x y = true
      · have Hp := Lib.hid hp
        go_wp2
        have r0 := cell_regrown e1
        have r1 := cell_regrown e2
        have r2 := cell_regrown p0
        have r3 := cell_regrown p1
        have r4 := cell_regrown p2
        have r5 := cell_regrown q0
        have r6 := cell_regrown q1
        have r7 := cell_regrown q2
        have rc0 : ∀ d os, Calls Try.prog 60 #[.agg #[.int .i64 x.X, .int .i64 x.Y, .int .i64 x.D], .agg #[.int .i64 y.X, .int .i64 y.Y, .int .i64 y.D]] (Sort.grow (redrawn wr d) os) fun e w'' => e = .returned (.bool true) ∧ ∃ pz : Regrown, w'' = Sort.grow (redrawn wr pz.d) pz.os :=
          fun d os => Calls.regrown_of (by rw [← hp]; exact l24Near_any x y _ ox oy)
        refine wp_region_quiet_below (by kernel_rfl) (by kernel_rfl) ?_
        repeat (first | go_big_quiet_step ((((go_at_call 60; exact rc0 _ _)))) | quiet_step ((((go_at_call 60; exact rc0 _ _)))))
        refine wpQuiet_nil ?_
        intro w3 hwq
        have hb3 := of_regrown hwq
        clear hwq r0 r1 r2 r3 r4 r5 r6 r7 rc0
        clear hp
        go_wp2
        go_roundw
        case rel => exact ⟨k + 1, by omega, by go_num, (fun i x' y' hi hx' hy' => by
            by_cases e : i = k
            · subst e; rw [Hx.out] at hx'; rw [Hy.out] at hy'; cases hx'; cases hy'; exact Hp.out
            · exact he.out i x' y' (by omega) hx' hy'), hb.trans (hb3.mono hb.size)⟩
        case measure => simp [intOf]; omega
      · have hp : nearB x y = false := by simpa using hp
        have H := Lib.hid (show okTr ⟨s, xs, ys, ct⟩ = false by unfold okTr; simp only [eqAll_bad Hx.out Hy.out hp, Bool.false_and, Bool.and_false])
        go_wp2
        have r0 := cell_regrown e1
        have r1 := cell_regrown e2
        have r2 := cell_regrown p0
        have r3 := cell_regrown p1
        have r4 := cell_regrown p2
        have r5 := cell_regrown q0
        have r6 := cell_regrown q1
        have r7 := cell_regrown q2
        have rc0 : ∀ d os, Calls Try.prog 60 #[.agg #[.int .i64 x.X, .int .i64 x.Y, .int .i64 x.D], .agg #[.int .i64 y.X, .int .i64 y.Y, .int .i64 y.D]] (Sort.grow (redrawn wr d) os) fun e w'' => e = .returned (.bool false) ∧ ∃ pz : Regrown, w'' = Sort.grow (redrawn wr pz.d) pz.os :=
          fun d os => Calls.regrown_of (by rw [← hp]; exact l24Near_any x y _ ox oy)
        refine wp_region_quiet_below (by kernel_rfl) (by kernel_rfl) ?_
        repeat (first | go_big_quiet_step ((((go_at_call 60; exact rc0 _ _)))) | quiet_step ((((go_at_call 60; exact rc0 _ _)))))
        refine wpQuiet_nil ?_
        intro w3 hwq
        have hb3 := of_regrown hwq
        clear hwq r0 r1 r2 r3 r4 r5 r6 r7 rc0
        clear hp
        go_wp2
        go_ret
        exact ⟨by rw [H.out]; rfl, hb.trans (hb3.mono hb.size)⟩
    · obtain rfl : k = n := by omega
      have H := Lib.hid (show okTr ⟨s, xs, ys, ct⟩ = inR ct 0 100 by
        unfold okTr
        rw [H1.out, H2.out, H3.out, eqAll_end (by rw [← Hn.out, ← Hl.out]) (by rw [← Hn.out]; exact he.out)]
        rfl)
      go_wp2_with (go_at_call 27; refine (l00In_any _ _ _ _).mono ?_; rintro e w' ⟨rfl, rfl⟩)
      go_ret
      exact ⟨by rw [H.out]; rfl, hb⟩

end Go.Proofs.Ytjfopofcbopfjaa
