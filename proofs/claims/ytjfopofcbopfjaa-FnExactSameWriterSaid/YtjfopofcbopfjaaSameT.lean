/- l24Same, SameTrained: whether two trained templates are the same. No conditions. -/
import Derived.Test.YtjfopofcbopfjaaSameF
import Derived.Test.YtjfopofcbopfjaaMem2
namespace Go.Proofs.Ytjfopofcbopfjaa
open Go.RowKit
set_option linter.unusedVariables false

set_option maxHeartbeats 1600000 in
theorem l24Same_any (b o b' o' : Nat) (cs ds : List Value) (x y : Trained) (w : World) (hx : At trainedR w (Old w) b o cs x) (hy : At trainedR w (Old w) b' o' ds y) :
    Calls Try.prog 30 #[.pointer (some ⟨b, o, none⟩), .pointer (some ⟨b', o', none⟩)] w (Quiet w (.bool (same x y))) := by
  obtain ⟨hb, ⟨v1, v2, rfl, bd, h1, h2⟩, hc⟩ := hx
  obtain ⟨hb', ⟨v1', v2', rfl, bd', h1', h2'⟩, hc'⟩ := hy
  have c0 := hc 0 _ rfl
  have c1 := hc 1 _ rfl
  have c2 := hc 2 _ rfl
  have c3 := hc 3 _ rfl
  have d0 := hc' 0 _ rfl
  have d1 := hc' 1 _ rfl
  have d2 := hc' 2 _ rfl
  have d3 := hc' 3 _ rfl
  simp only [Nat.add_zero] at c0 d0
  clear hc hc'
  by_cases e1 : x.Label = y.Label
  rotate_left
  · have H := Lib.hid (show same x y = false from same_not (fun e => e1 (by rw [e])))
    have g1 := str_ne e1
    clear e1
    go_enter Try.func30, Try.ntmps30
    go_wp2
    go_quiet (fail)
    go_wp2
    go_ret
    exact ⟨by rw [H.out]; rfl, _, rfl⟩
  by_cases e2 : x.Base = y.Base
  rotate_left
  · have H := Lib.hid (show same x y = false from same_not (fun e => e2 (by rw [e])))
    rw [e1] at c0
    have g2 := same_not e2
    clear e1 e2
    go_enter Try.func30, Try.ntmps30
    go_wp2
    go_quiet (((go_at_call 51; first | with_reducible exact Calls.quiet_of (l11SameFeats_any _ _ x.Base y.Base _ (h1.drewN_ _) (h1'.drewN_ _)) | with_reducible exact Calls.quiet_of (l11SameFeats_any _ _ x.Feats y.Feats _ (h2.drewN_ _) (h2'.drewN_ _)))))
    go_wp2
    go_ret
    exact ⟨by rw [H.out]; rfl, _, rfl⟩
  by_cases e3 : x.Feats = y.Feats
  rotate_left
  · have H := Lib.hid (show same x y = false from same_not (fun e => e3 (by rw [e])))
    rw [e1] at c0
    have g2 := same_iff.2 e2
    have g3 := same_not e3
    clear e1 e2 e3
    go_enter Try.func30, Try.ntmps30
    go_wp2
    go_quiet (((go_at_call 51; first | with_reducible exact Calls.quiet_of (l11SameFeats_any _ _ x.Base y.Base _ (h1.drewN_ _) (h1'.drewN_ _)) | with_reducible exact Calls.quiet_of (l11SameFeats_any _ _ x.Feats y.Feats _ (h2.drewN_ _) (h2'.drewN_ _)))))
    go_wp2
    go_ret
    exact ⟨by rw [H.out]; rfl, _, rfl⟩
  by_cases e4 : x.Count = y.Count
  rotate_left
  · have H := Lib.hid (show same x y = false from same_not (fun e => e4 (by rw [e])))
    have g4 : (x.Count == y.Count) = false := by simpa using e4
    rw [e1] at c0
    have g2 := same_iff.2 e2
    have g3 := same_iff.2 e3
    clear e1 e2 e3 e4
    go_enter Try.func30, Try.ntmps30
    go_wp2
    go_quiet (((go_at_call 51; first | with_reducible exact Calls.quiet_of (l11SameFeats_any _ _ x.Base y.Base _ (h1.drewN_ _) (h1'.drewN_ _)) | with_reducible exact Calls.quiet_of (l11SameFeats_any _ _ x.Feats y.Feats _ (h2.drewN_ _) (h2'.drewN_ _)))))
    go_wp2
    go_ret
    exact ⟨by rw [H.out]; rfl, _, rfl⟩
  · have H := Lib.hid (show same x y = true by rw [same_iff]; cases x; cases y; simp_all)
    rw [e4] at c3
    rw [e1] at c0
    have g2 := same_iff.2 e2
    have g3 := same_iff.2 e3
    clear e1 e2 e3 e4
    go_enter Try.func30, Try.ntmps30
    go_wp2
    go_quiet (((go_at_call 51; first | with_reducible exact Calls.quiet_of (l11SameFeats_any _ _ x.Base y.Base _ (h1.drewN_ _) (h1'.drewN_ _)) | with_reducible exact Calls.quiet_of (l11SameFeats_any _ _ x.Feats y.Feats _ (h2.drewN_ _) (h2'.drewN_ _)))))
    go_wp2
    go_ret
    exact ⟨by rw [H.out]; rfl, _, rfl⟩

set_option maxHeartbeats 800000 in
theorem specSameTrained_any (cs ds : List Value) (x y : Trained) (w : World) (hx : trainedR.rel w (Old w) cs x) (hy : trainedR.rel w (Old w) ds y) :
    Calls Try.prog 11 #[.agg cs.toArray, .agg ds.toArray] w fun e w' => e = .returned (.bool (same x y)) ∧ Below w.heap.size w w' := by
  have hx1 := At.box trainedR hx 31
  have hy1 := At.box trainedR (trainedR.up hy ((Below.refl _ _).alloc (Nat.le_refl _) (.cells cs.toArray 31))) 31
  have hx2 := hx1.up ((Below.refl _ _).alloc (Nat.le_refl _) (.cells ds.toArray 31))
  simp only [World.size_alloc] at hy1
  obtain ⟨v1, v2, rfl, bd, h1, h2⟩ := hx
  obtain ⟨v1', v2', rfl, bd', h1', h2'⟩ := hy
  clear hx1
  go_enter Try.func11, Try.ntmps11
  go_wp2_with fail
  refine (l24Same_any _ _ _ _ _ _ x y _ hx2 hy1).mono ?_
  rintro e w1 ⟨rfl, n, rfl⟩
  go_wp2
  go_ret
  exact ⟨rfl, below_drewN (((Below.refl _ _).alloc (Nat.le_refl _) _).alloc (by simp) _) n⟩

set_option maxHeartbeats 1600000 in
theorem implSameTrained_any (cs ds : List Value) (x y : Trained) (w : World) (hx : trainedR.rel w (Old w) cs x) (hy : trainedR.rel w (Old w) ds y) :
    Calls Try.prog 13 #[.agg cs.toArray, .agg ds.toArray] w fun e w' => e = .returned (.bool (same x y)) ∧ Below w.heap.size w w' := by
  obtain ⟨v1, v2, rfl, bd, h1, h2⟩ := hx
  obtain ⟨v1', v2', rfl, bd', h1', h2'⟩ := hy
  by_cases e1 : x.Label = y.Label
  rotate_left
  · have H := Lib.hid (show same x y = false from same_not (fun e => e1 (by rw [e])))
    have g1 := str_ne e1
    clear e1
    go_enter Try.func13, Try.ntmps13
    go_wp2_with fail
    go_ret
    exact ⟨by rw [H.out]; rfl, (((Below.refl _ _).alloc (Nat.le_refl _) _).alloc (by simp) _)⟩
  by_cases e4 : x.Count = y.Count
  rotate_left
  · have H := Lib.hid (show same x y = false from same_not (fun e => e4 (by rw [e])))
    have g4 : (x.Count == y.Count) = false := by simpa using e4
    rw [e1]
    clear e1 e4
    go_enter Try.func13, Try.ntmps13
    go_wp2_with fail
    go_ret
    exact ⟨by rw [H.out]; rfl, (((Below.refl _ _).alloc (Nat.le_refl _) _).alloc (by simp) _)⟩
  by_cases e2 : x.Base = y.Base
  rotate_left
  · have H := Lib.hid (show same x y = false from same_not (fun e => e2 (by rw [e])))
    have g2 := same_not e2
    rw [e1, e4]
    clear e1 e2 e4
    go_enter Try.func13, Try.ntmps13
    go_wp2_with fail
    refine (equalFeat_any _ _ x.Base y.Base _ (h1.up (((Below.refl _ _).alloc (Nat.le_refl _) _).alloc (by simp) _)) (h1'.up (((Below.refl _ _).alloc (Nat.le_refl _) _).alloc (by simp) _))).mono ?_
    rintro e w0 ⟨rfl, n0, rfl⟩
    go_wp2_with fail
    go_ret
    exact ⟨by rw [H.out]; rfl, (below_drewN (((Below.refl _ _).alloc (Nat.le_refl _) _).alloc (by simp) _) _)⟩
  by_cases e3 : x.Feats = y.Feats
  rotate_left
  · have H := Lib.hid (show same x y = false from same_not (fun e => e3 (by rw [e])))
    have g2 := same_iff.2 e2
    have g3 := same_not e3
    rw [e1, e4]
    clear e1 e2 e3 e4
    go_enter Try.func13, Try.ntmps13
    go_wp2_with fail
    refine (equalFeat_any _ _ x.Base y.Base _ (h1.up (((Below.refl _ _).alloc (Nat.le_refl _) _).alloc (by simp) _)) (h1'.up (((Below.refl _ _).alloc (Nat.le_refl _) _).alloc (by simp) _))).mono ?_
    rintro e w0 ⟨rfl, n0, rfl⟩
    go_wp2_with fail
    refine (equalFeat_any _ _ x.Feats y.Feats _ (h2.up (below_drewN (((Below.refl _ _).alloc (Nat.le_refl _) _).alloc (by simp) _) _)) (h2'.up (below_drewN (((Below.refl _ _).alloc (Nat.le_refl _) _).alloc (by simp) _) _))).mono ?_
    rintro e w1 ⟨rfl, n1, rfl⟩
    go_wp2_with fail
    go_ret
    exact ⟨by rw [H.out]; rfl, (below_drewN (((Below.refl _ _).alloc (Nat.le_refl _) _).alloc (by simp) _) _)⟩
  · have H := Lib.hid (show same x y = true by rw [same_iff]; cases x; cases y; simp_all)
    have g2 := same_iff.2 e2
    have g3 := same_iff.2 e3
    rw [e1, e4]
    clear e1 e2 e3 e4
    go_enter Try.func13, Try.ntmps13
    go_wp2_with fail
    refine (equalFeat_any _ _ x.Base y.Base _ (h1.up (((Below.refl _ _).alloc (Nat.le_refl _) _).alloc (by simp) _)) (h1'.up (((Below.refl _ _).alloc (Nat.le_refl _) _).alloc (by simp) _))).mono ?_
    rintro e w0 ⟨rfl, n0, rfl⟩
    go_wp2_with fail
    refine (equalFeat_any _ _ x.Feats y.Feats _ (h2.up (below_drewN (((Below.refl _ _).alloc (Nat.le_refl _) _).alloc (by simp) _) _)) (h2'.up (below_drewN (((Below.refl _ _).alloc (Nat.le_refl _) _).alloc (by simp) _) _))).mono ?_
    rintro e w1 ⟨rfl, n1, rfl⟩
    go_wp2_with fail
    go_ret
    exact ⟨by rw [H.out]; rfl, (below_drewN (((Below.refl _ _).alloc (Nat.le_refl _) _).alloc (by simp) _) _)⟩
end Go.Proofs.Ytjfopofcbopfjaa
