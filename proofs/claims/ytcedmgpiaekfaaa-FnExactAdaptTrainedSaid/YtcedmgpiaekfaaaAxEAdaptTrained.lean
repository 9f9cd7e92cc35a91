/- The statement FnExactAdaptTrained: contracts of what it reaches, and its proof. No conditions. -/
import Derived.Test.YtcedmgpiaekfaaaAxEAdaptTrained4
import Derived.Test.YtcedmgpiaekfaaaAxR
import Derived.Test.YtcedmgpiaekfaaaAxS
import Derived.Test.YtcedmgpiaekfaaaSortShelf
namespace Go.Proofs.Ytcedmgpiaekfaaa.Ax
open Go.RowKit Go.ChangeShapes Go.WideShapes
set_option linter.unusedVariables false
set_option linter.unusedSimpArgs false


-- laws.markTrained
theorem markTrained_ok (al : Trained) (k : Int) (hk : 0 ≤ k ∧ k ≤ 10000000 ∧ al.Base.length ≤ 1048576 ∧ al.Feats.length ≤ 1048576) : ∃ (v : Int) (al_Base : List Feat) (al_Feats : List Feat), (v = k + 3 * (al.Base.length : Int) + 3 * (al.Feats.length : Int)) ∧ (al_Base = mkL k al.Base.length) ∧ (al_Feats = mkL (k + 3 * (al.Base.length : Int)) al.Feats.length) ∧ CallOK Try.prog 13 [.agg [Sv al.Label, .arr 7301, .arr 7302, I al.Count], I k] (lookO [(7301, .arr 3 al.Base.length (fFeat al.Base)), (7302, .arr 3 al.Feats.length (fFeat al.Feats))]) true (I v) (lookO [(7301, .arr 3 al_Base.length (fFeat al_Base)), (7302, .arr 3 al_Feats.length (fFeat al_Feats))]) := by
  have hh : ∃ r : Int × (List Feat) × (List Feat), ((r.1 = k + 3 * (al.Base.length : Int) + 3 * (al.Feats.length : Int)) ∧ (r.2.1 = mkL k al.Base.length) ∧ (r.2.2 = mkL (k + 3 * (al.Base.length : Int)) al.Feats.length) ∧ (True)) ∧ CallOK Try.prog 13 [.agg [Sv al.Label, .arr 7301, .arr 7302, I al.Count], I k] (lookO [(7301, .arr 3 al.Base.length (fFeat al.Base)), (7302, .arr 3 al.Feats.length (fFeat al.Feats))]) true (I r.1) (lookO [(7301, .arr 3 r.2.1.length (fFeat r.2.1)), (7302, .arr 3 r.2.2.length (fFeat r.2.2))]) := by
    refine fn_okX (Φ := fun r : Int × (List Feat) × (List Feat) => (r.1 = k + 3 * (al.Base.length : Int) + 3 * (al.Feats.length : Int)) ∧ (r.2.1 = mkL k al.Base.length) ∧ (r.2.2 = mkL (k + 3 * (al.Base.length : Int)) al.Feats.length) ∧ (True)) [(7301, .arr 3 al.Base.length (fFeat al.Base)), (7302, .arr 3 al.Feats.length (fFeat al.Feats))] (fun r => [(7301, .arr 3 r.2.1.length (fFeat r.2.1)), (7302, .arr 3 r.2.2.length (fFeat r.2.2))]) (fn := Try.f13) (nt := 14) Try.func13 rfl rfl (args := [.agg [Sv al.Label, .arr 7301, .arr 7302, I al.Count], I k]) rfl (allcons (.inr (by simp [tagged, taggedL])) (allcons (.inl ⟨rfl, trivial⟩) allnil)) (res := fun r => I r.1) ?_
    refine x_seq ?_
    refine x_reg [(0, .new 2)] [1, 2] [2, 7301, 7302] [I k, .ref 2 0] [some (.box [Sv al.Label, .arr 7301, .arr 7302, I al.Count]), some (.arr 3 al.Base.length (fFeat al.Base)), some (.arr 3 al.Feats.length (fFeat al.Feats))] [] (by kernel_rfl) trivial ?_
    refine xe_then ?_
    refine x_seq ?_
    obtain ⟨v_1, al'_1, hx1_0, hx1_1, hc1⟩ := markFeatS0_ok al.Base k (by omega)
    refine x_reg [(3, .lend [(7301, .arr 3 al.Base.length (fFeat al.Base), .arr 3 al'_1.length (fFeat al'_1))] [] [(true, .arr 7301), (true, I k)] true (I v_1))] [1, 2] [2, 7301, 7302] [I v_1, .ref 2 0] [some (.box [Sv al.Label, .arr 7301, .arr 7302, I al.Count]), some (.arr 3 al'_1.length (fFeat al'_1)), some (.arr 3 al.Feats.length (fFeat al.Feats))] [CallOK Try.prog 14 [.arr 7301, I k] (lookO [(7301, .arr 3 al.Base.length (fFeat al.Base))]) true (I v_1) (lookO [(7301, .arr 3 al'_1.length (fFeat al'_1))]) ∧ ((.arr 7301 : AV) = .arr 7301) ∧ ((I k : AV) = I k) ∧ (((.arr 3 al.Base.length (fFeat al.Base) : Ob) = .arr 3 al.Base.length (fFeat al.Base) ∨ obLe noOb true (.arr 3 al.Base.length (fFeat al.Base)) (.arr 3 al.Base.length (fFeat al.Base))) ∧ taggedO false (.arr 3 al.Base.length (fFeat al.Base))) ∧ True] (by kernel_rfl) ⟨⟨hc1, rfl, rfl, ⟨.inl rfl, fun _ _ => tagcFeat false _⟩, trivial⟩, trivial⟩ ?_
    refine xe_then ?_
    refine x_seq ?_
    obtain ⟨v_2, al'_2, hx2_0, hx2_1, hc2⟩ := markFeatS1_ok al.Feats v_1 (by omega)
    refine x_reg [(3, .lend [(7302, .arr 3 al.Feats.length (fFeat al.Feats), .arr 3 al'_2.length (fFeat al'_2))] [] [(true, .arr 7302), (true, I v_1)] true (I v_2))] [1] [7301, 7302] [I v_2] [some (.arr 3 al'_1.length (fFeat al'_1)), some (.arr 3 al'_2.length (fFeat al'_2))] [CallOK Try.prog 14 [.arr 7302, I v_1] (lookO [(7302, .arr 3 al.Feats.length (fFeat al.Feats))]) true (I v_2) (lookO [(7302, .arr 3 al'_2.length (fFeat al'_2))]) ∧ ((.arr 7302 : AV) = .arr 7302) ∧ ((I v_1 : AV) = I v_1) ∧ (((.arr 3 al.Feats.length (fFeat al.Feats) : Ob) = .arr 3 al.Feats.length (fFeat al.Feats) ∨ obLe noOb true (.arr 3 al.Feats.length (fFeat al.Feats)) (.arr 3 al.Feats.length (fFeat al.Feats))) ∧ taggedO false (.arr 3 al.Feats.length (fFeat al.Feats))) ∧ True] (by kernel_rfl) ⟨⟨hc2, rfl, rfl, ⟨.inl rfl, fun _ _ => tagcFeat false _⟩, trivial⟩, trivial⟩ ?_
    refine xe_then ?_
    refine x_seq ?_
    refine x_reg [] [4] [7301, 7302] [I v_2] [some (.arr 3 al'_1.length (fFeat al'_1)), some (.arr 3 al'_2.length (fFeat al'_2))] [] (by kernel_rfl) trivial ?_
    refine xe_then ?_
    refine x_ret ?_
    refine xe_end (v_2, al'_1, al'_2) (show (v_2 = k + 3 * (al.Base.length : Int) + 3 * (al.Feats.length : Int)) ∧ (al'_1 = mkL k al.Base.length) ∧ (al'_2 = mkL (k + 3 * (al.Base.length : Int)) al.Feats.length) ∧ (True) from ⟨(by first | omega | assumption | (simp only [*]; done) | (rw [hx2_1, hx1_0])), (by first | omega | assumption | (simp only [*]; done) | (rw [hx2_1, hx1_0])), (by first | omega | assumption | (simp only [*]; done) | (rw [hx2_1, hx1_0])), trivial⟩) (⟨.inl rfl, .inl rfl, trivial⟩) (I v_2) (by kernel_rfl) (.inl rfl) (fun _ => rfl) (fun _ => trivial)
  obtain ⟨⟨v, al_Base, al_Feats⟩, ⟨hh0, hh1, hh2, _⟩, hc⟩ := hh
  exact ⟨v, al_Base, al_Feats, hh0, hh1, hh2, hc⟩


-- laws.heldFeatS
theorem heldFeatS_ok (a : List Feat) (k : Int) (hk : 0 ≤ k ∧ k ≤ 100000000 ∧ a.length ≤ 1048576) (ha : a = mkL k a.length) : Con Try.prog 37 [slFeat false a, I k] true (I (k + 3 * (a.length : Int))) := by
  refine fn_ok (fn := Try.f37) (nt := 40) Try.func37 rfl rfl rfl rfl (by simp [taggedL, tagged, tagFeat]) fun B hB => ?_
  refine aw_lens (x := slFeat false a) 0 rfl (fun len_a => ?_)
  simp [LenOK, LenL, cFeat, fFeat, slFeat] at len_a
  refine aw_seq ?_
  refine aw_reg [] [0, 1] [] [slFeat false a, I k] [] [] (by kernel_rfl) hB trivial ?_
  refine ae_then ?_
  refine aw_seq ?_
  refine aw_seq ?_
  refine aw_reg [] [0, 1, 5] [] [slFeat false a, I k, I 0] [] [] (by kernel_rfl) hB trivial ?_
  refine ae_then ?_
  refine aw_block ?_
  refine aw_loop (fun gn gσ => ∃ (k' : Int) (i : Int), gn = ((a.length : Int) - i).toNat ∧ (0 ≤ i ∧ i ≤ (a.length : Int)) ∧ (k' = k + 3 * i) ∧ gσ = mkS [(0, slFeat false a), (1, I k'), (5, I i)] []) (((a.length : Int) - 0).toNat) ⟨k, 0, rfl, (by omega), (by omega), rfl⟩ (fun gn gσ hI => ?_)
  obtain ⟨k', i, rfl, hi0, hk1, rfl⟩ := hI
  refine aw_seq ?_
  refine aw_seq ?_
  by_cases h1 : i < (a.length : Int)
  ·have hi : i.toNat < a.length := by omega
   have hat : at_ a i.toNat = ⟨k + 3 * (i.toNat : Int), k + 3 * (i.toNat : Int) + 1, k + 3 * (i.toNat : Int) + 2⟩ := (congrArg (fun z => at_ z i.toNat) ha).trans (mkL_at hi)
   refine aw_reg [(3, .dec true)] [0, 1, 5, 9] [] [slFeat false a, I k', I i, Bv true] [] [i < (a.length : Int)] (by kernel_rfl) hB ⟨h1, trivial⟩ ?_
   refine ae_then ?_
   refine aw_true rfl ?_
   refine aw_skip ?_
   refine ae_then ?_
   refine aw_seq ?_
   refine aw_block ?_
   refine aw_seq ?_
   refine aw_seq ?_
   refine aw_reg [(6, .dec false)] [0, 1, 5, 18] [] [slFeat false a, I k', I i, Bv false] [] [(0 : Int) ≤ i ∧ i < (a.length : Int), ¬ (((at_ a i.toNat).X) ≠ k')] (by kernel_rfl) hB ⟨⟨(by omega), (by omega)⟩, (fun hq => hq (by rw [hat]; simp only; omega)), trivial⟩ ?_
   refine ae_then ?_
   refine aw_false rfl ?_
   refine aw_skip ?_
   refine ae_then ?_
   refine aw_seq ?_
   refine aw_reg [] [0, 1, 5] [] [slFeat false a, I (k' + 1), I i] [] [inR .i64 (k' + 1)] (by kernel_rfl) hB ⟨(inR_i64 (by omega) (by omega)), trivial⟩ ?_
   refine ae_then ?_
   refine aw_seq ?_
   refine aw_seq ?_
   refine aw_reg [(6, .dec false)] [0, 1, 5, 27] [] [slFeat false a, I (k' + 1), I i, Bv false] [] [(0 : Int) ≤ i ∧ i < (a.length : Int), ¬ (((at_ a i.toNat).Y) ≠ (k' + 1))] (by kernel_rfl) hB ⟨⟨(by omega), (by omega)⟩, (fun hq => hq (by rw [hat]; simp only; omega)), trivial⟩ ?_
   refine ae_then ?_
   refine aw_false rfl ?_
   refine aw_skip ?_
   refine ae_then ?_
   refine aw_seq ?_
   refine aw_reg [] [0, 1, 5] [] [slFeat false a, I ((k' + 1) + 1), I i] [] [inR .i64 ((k' + 1) + 1)] (by kernel_rfl) hB ⟨(inR_i64 (by omega) (by omega)), trivial⟩ ?_
   refine ae_then ?_
   refine aw_seq ?_
   refine aw_seq ?_
   refine aw_reg [(6, .dec false)] [0, 1, 5, 36] [] [slFeat false a, I ((k' + 1) + 1), I i, Bv false] [] [(0 : Int) ≤ i ∧ i < (a.length : Int), ¬ (((at_ a i.toNat).D) ≠ ((k' + 1) + 1))] (by kernel_rfl) hB ⟨⟨(by omega), (by omega)⟩, (fun hq => hq (by rw [hat]; simp only; omega)), trivial⟩ ?_
   refine ae_then ?_
   refine aw_false rfl ?_
   refine aw_skip ?_
   refine ae_then ?_
   refine aw_reg [] [0, 1, 5] [] [slFeat false a, I (((k' + 1) + 1) + 1), I i] [] [inR .i64 (((k' + 1) + 1) + 1)] (by kernel_rfl) hB ⟨(inR_i64 (by omega) (by omega)), trivial⟩ ?_
   refine ae_block 1 ?_
   refine ae_then ?_
   refine aw_reg [] [0, 1, 5] [] [slFeat false a, I (((k' + 1) + 1) + 1), I (i + 1)] [] [inR .i64 (i + 1)] (by kernel_rfl) hB ⟨(inR_i64 (by omega) (by omega)), trivial⟩ ?_
   exact ae_again _ (by omega) ⟨(((k' + 1) + 1) + 1), (i + 1), rfl, (by omega), (by omega), rfl⟩
  ·refine aw_reg [(3, .dec false)] [0, 1, 5, 9] [] [slFeat false a, I k', I i, Bv false] [] [¬ (i < (a.length : Int))] (by kernel_rfl) hB ⟨h1, trivial⟩ ?_
   refine ae_then ?_
   refine aw_false rfl ?_
   refine aw_exit ?_
   refine ae_exit_then ?_
   refine ae_exit_then ?_
   refine ae_exit_same ?_
   refine ae_then ?_
   refine aw_seq ?_
   refine aw_reg [] [4] [] [I k'] [] [] (by kernel_rfl) hB trivial ?_
   refine ae_then ?_
   refine aw_ret ?_
   refine ae_ret hB (I k') (by kernel_rfl) (.inl (by refine congrArg I ?_; omega)) rfl (fun _ => trivial)


-- laws.heldTrained
theorem heldTrained_ok (a : Trained) (k : Int) (hk : 0 ≤ k ∧ k ≤ 10000000 ∧ a.Base.length ≤ 1048576 ∧ a.Feats.length ≤ 1048576) (h1 : a.Base = mkL k a.Base.length) (h2 : a.Feats = mkL (k + 3 * (a.Base.length : Int)) a.Feats.length) : Con Try.prog 15 [agTrained a, I k] true (I (k + 3 * (a.Base.length : Int) + 3 * (a.Feats.length : Int))) := by
  refine fn_ok (fn := Try.f15) (nt := 18) Try.func15 rfl rfl rfl rfl (by simp [taggedL, tagged, tagFeat]) fun B hB => ?_
  refine aw_lens (x := agTrained a) 0 rfl (fun len_a => ?_)
  simp [LenOK, LenL, cFeat, fFeat, slFeat] at len_a
  refine aw_seq ?_
  refine aw_reg [(0, .new 2)] [1, 2] [2] [I k, .ref 2 0] [some (bxTrained a)] [] (by kernel_rfl) hB trivial ?_
  refine ae_then ?_
  refine aw_seq ?_
  refine aw_reg [(3, .call [(true, slFeat false a.Base), (true, I k)] true (I (k + 3 * (a.Base.length : Int))))] [1, 2] [2] [I (k + 3 * (a.Base.length : Int)), .ref 2 0] [some (bxTrained a)] [Con Try.prog 37 [slFeat false a.Base, I k] true (I (k + 3 * (a.Base.length : Int))) ∧ ((slFeat false a.Base : AV) = slFeat false a.Base) ∧ ((I k : AV) = I k) ∧ True] (by kernel_rfl) hB ⟨⟨(heldFeatS_ok a.Base k (by omega) h1), rfl, rfl, trivial⟩, trivial⟩ ?_
  refine ae_then ?_
  refine aw_seq ?_
  refine aw_seq ?_
  refine aw_reg [(1, .dec false)] [1, 2, 10] [2] [I (k + 3 * (a.Base.length : Int)), .ref 2 0, Bv false] [some (bxTrained a)] [¬ ((k + 3 * (a.Base.length : Int)) < 0)] (by kernel_rfl) hB ⟨(by omega), trivial⟩ ?_
  refine ae_then ?_
  refine aw_false rfl ?_
  refine aw_skip ?_
  refine ae_then ?_
  refine aw_seq ?_
  refine aw_reg [(3, .call [(true, slFeat false a.Feats), (true, I (k + 3 * (a.Base.length : Int)))] true (I ((k + 3 * (a.Base.length : Int)) + 3 * (a.Feats.length : Int))))] [1] [] [I ((k + 3 * (a.Base.length : Int)) + 3 * (a.Feats.length : Int))] [] [Con Try.prog 37 [slFeat false a.Feats, I (k + 3 * (a.Base.length : Int))] true (I ((k + 3 * (a.Base.length : Int)) + 3 * (a.Feats.length : Int))) ∧ ((slFeat false a.Feats : AV) = slFeat false a.Feats) ∧ ((I (k + 3 * (a.Base.length : Int)) : AV) = I (k + 3 * (a.Base.length : Int))) ∧ True] (by kernel_rfl) hB ⟨⟨(heldFeatS_ok a.Feats (k + 3 * (a.Base.length : Int)) (by omega) h2), rfl, rfl, trivial⟩, trivial⟩ ?_
  refine ae_then ?_
  refine aw_seq ?_
  refine aw_seq ?_
  refine aw_reg [(1, .dec false)] [1, 16] [] [I ((k + 3 * (a.Base.length : Int)) + 3 * (a.Feats.length : Int)), Bv false] [] [¬ (((k + 3 * (a.Base.length : Int)) + 3 * (a.Feats.length : Int)) < 0)] (by kernel_rfl) hB ⟨(by omega), trivial⟩ ?_
  refine ae_then ?_
  refine aw_false rfl ?_
  refine aw_skip ?_
  refine ae_then ?_
  refine aw_seq ?_
  refine aw_reg [] [4] [] [I ((k + 3 * (a.Base.length : Int)) + 3 * (a.Feats.length : Int))] [] [] (by kernel_rfl) hB trivial ?_
  refine ae_then ?_
  refine aw_ret ?_
  refine ae_ret hB (I ((k + 3 * (a.Base.length : Int)) + 3 * (a.Feats.length : Int))) (by kernel_rfl) (.inl (by rfl)) rfl (fun _ => trivial)


theorem same_self {α : Type} [DecidableEq α] (x : α) : same x x = true := by simp [same]

-- laws.FnExactAdaptTrained
theorem fnExactAdaptTrained_con (aT : Trained) (aSample : List Feat) (aBand : Int) (aShare : Int) (ok_aT : okTrained aT) (in_aBand : inR .i64 aBand) (in_aShare : inR .i64 aShare) : Con Try.prog 3 [agTrained aT, slFeat false aSample, I aBand, I aShare] true (Bv true) := by
  refine fn_ok (fn := Try.f3) (nt := 129) Try.func3 rfl rfl rfl rfl (by simp [taggedL, tagged, tagFeat]) fun B hB => ?_
  refine aw_lens (x := agTrained aT) 0 rfl (fun len_aT => ?_)
  simp [LenOK, LenL, cFeat, fFeat, slFeat] at len_aT
  refine aw_lens (x := slFeat false aSample) 1 rfl (fun len_aSample => ?_)
  simp [LenOK, LenL, cFeat, fFeat, slFeat] at len_aSample
  refine aw_seq ?_
  refine aw_reg [(0, .new 4)] [1, 2, 3, 4] [4] [slFeat false aSample, I aBand, I aShare, .ref 4 0] [some (bxTrained aT)] [] (by kernel_rfl) hB trivial ?_
  refine ae_then ?_
  refine aw_seq ?_
  refine aw_reg [] [1, 2, 3, 4, 9] [4] [slFeat false aSample, I aBand, I aShare, .ref 4 0, I 1048576] [some (bxTrained aT)] [] (by kernel_rfl) hB trivial ?_
  refine ae_then ?_
  refine aw_seq ?_
  refine aw_reg [(2, .call [(true, agTrained aT), (true, I 1048576)] true (I (szTake 1048576 (bulkTrained aT))))] [1, 2, 3, 4, 9] [4] [slFeat false aSample, I aBand, I aShare, .ref 4 0, I (szTake 1048576 (bulkTrained aT))] [some (bxTrained aT)] [Con Try.prog 5 [agTrained aT, I 1048576] true (I (szTake 1048576 (bulkTrained aT))) ∧ ((agTrained aT : AV) = agTrained aT) ∧ ((I 1048576 : AV) = I 1048576) ∧ True] (by kernel_rfl) hB ⟨⟨(szTrained_ok aT 1048576 (by omega) ok_aT), rfl, rfl, trivial⟩, trivial⟩ ?_
  refine ae_then ?_
  refine aw_seq ?_
  refine aw_seq ?_
  by_cases h1 : (szTake 1048576 (bulkTrained aT)) < 0
  ·refine aw_reg [(1, .dec true)] [1, 2, 3, 4, 9, 25] [4] [slFeat false aSample, I aBand, I aShare, .ref 4 0, I (szTake 1048576 (bulkTrained aT)), Bv true] [some (bxTrained aT)] [(szTake 1048576 (bulkTrained aT)) < 0] (by kernel_rfl) hB ⟨h1, trivial⟩ ?_
   refine ae_then ?_
   refine aw_true rfl ?_
   refine aw_seq ?_
   refine aw_reg [] [8] [] [Bv true] [] [] (by kernel_rfl) hB trivial ?_
   refine ae_then ?_
   refine aw_ret ?_
   refine ae_ret_then ?_
   refine ae_ret hB (Bv true) (by kernel_rfl) (.inl rfl) rfl (fun _ => trivial)
  ·have ebh1 := szTake_nn h1
   have ech1 := ebh1
   try unfold bulkTrained at ech1
   refine aw_reg [(1, .dec false)] [1, 2, 3, 4, 9, 25] [4] [slFeat false aSample, I aBand, I aShare, .ref 4 0, I (szTake 1048576 (bulkTrained aT)), Bv false] [some (bxTrained aT)] [¬ ((szTake 1048576 (bulkTrained aT)) < 0)] (by kernel_rfl) hB ⟨h1, trivial⟩ ?_
   refine ae_then ?_
   refine aw_false rfl ?_
   refine aw_skip ?_
   refine ae_then ?_
   refine aw_seq ?_
   refine aw_reg [(2, .call [(true, slFeat false aSample), (true, I (szTake 1048576 (bulkTrained aT)))] true (I (szTake (szTake 1048576 (bulkTrained aT)) (bulkFeatS aSample))))] [1, 2, 3, 4, 9] [4] [slFeat false aSample, I aBand, I aShare, .ref 4 0, I (szTake (szTake 1048576 (bulkTrained aT)) (bulkFeatS aSample))] [some (bxTrained aT)] [Con Try.prog 6 [slFeat false aSample, I (szTake 1048576 (bulkTrained aT))] true (I (szTake (szTake 1048576 (bulkTrained aT)) (bulkFeatS aSample))) ∧ ((slFeat false aSample : AV) = slFeat false aSample) ∧ ((I (szTake 1048576 (bulkTrained aT)) : AV) = I (szTake 1048576 (bulkTrained aT))) ∧ True] (by kernel_rfl) hB ⟨⟨(szFeatS_ok aSample (szTake 1048576 (bulkTrained aT)) (by omega)), rfl, rfl, trivial⟩, trivial⟩ ?_
   refine ae_then ?_
   refine aw_seq ?_
   refine aw_seq ?_
   by_cases h2 : (szTake (szTake 1048576 (bulkTrained aT)) (bulkFeatS aSample)) < 0
   ·refine aw_reg [(1, .dec true)] [1, 2, 3, 4, 30] [4] [slFeat false aSample, I aBand, I aShare, .ref 4 0, Bv true] [some (bxTrained aT)] [(szTake (szTake 1048576 (bulkTrained aT)) (bulkFeatS aSample)) < 0] (by kernel_rfl) hB ⟨h2, trivial⟩ ?_
    refine ae_then ?_
    refine aw_true rfl ?_
    refine aw_seq ?_
    refine aw_reg [] [8] [] [Bv true] [] [] (by kernel_rfl) hB trivial ?_
    refine ae_then ?_
    refine aw_ret ?_
    refine ae_ret_then ?_
    refine ae_ret hB (Bv true) (by kernel_rfl) (.inl rfl) rfl (fun _ => trivial)
   ·have ebh2 := szTake_nn h2
    have ech2 := ebh2
    try unfold bulkTrained at ech2
    refine aw_reg [(1, .dec false)] [1, 2, 3, 4, 30] [4] [slFeat false aSample, I aBand, I aShare, .ref 4 0, Bv false] [some (bxTrained aT)] [¬ ((szTake (szTake 1048576 (bulkTrained aT)) (bulkFeatS aSample)) < 0)] (by kernel_rfl) hB ⟨h2, trivial⟩ ?_
    refine ae_then ?_
    refine aw_false rfl ?_
    refine aw_skip ?_
    refine ae_then ?_
    refine aw_seq ?_
    obtain ⟨bs_1, fs_1, hx1_0, hx1_1, hc1⟩ := toTrained_own aT (by omega)
    have hl_fs_1 : fs_1.length ≤ 1048576 ∧ bs_1.length ≤ 1048576 := by rw [hx1_1, hx1_0]; have := bulkFeatS_len aT.Feats; have := bulkFeatS_len aT.Base; omega
    obtain ⟨ys_2, hx2_0, hc2⟩ := toFeatS_own aSample (by omega)
    have hl_ys_2 : ys_2.length ≤ 1048576 := by rw [hx2_0]; have := bulkFeatS_len aSample; omega
    obtain ⟨v_3, c_3, hx3_0, hx3_1, hc3⟩ := specAdaptTrained_ok (Trained.mk aT.Label bs_1 fs_1 aT.Count) ys_2 aBand aShare ok_aT
    refine aw_reg [(1, .lend [] [(8303, .arr 3 bs_1.length (fFeat bs_1)), (8304, .arr 3 fs_1.length (fFeat fs_1))] [(true, agTrained aT)] false (.agg [Sv aT.Label, .arr 8303, .arr 8304, I aT.Count])), (3, .lend [] [(8301, .arr 3 ys_2.length (fFeat ys_2))] [(true, slFeat false aSample)] false (.arr 8301)), (6, .call [(false, .agg [Sv aT.Label, slFeat false bs_1, slFeat false fs_1, I aT.Count]), (false, slFeat false ys_2), (true, I aBand), (true, I aShare)] true (.tup [agTrainedT v_3, I c_3])), (10, .new 10)] [1, 2, 3, 4, 10, 11] [4, 10] [slFeat false aSample, I aBand, I aShare, .ref 4 0, .ref 10 0, I c_3] [some (bxTrained aT), some (bxTrainedT v_3)] [CallOK Try.prog 8 [agTrained aT] (lookO []) false (.agg [Sv aT.Label, .arr 8303, .arr 8304, I aT.Count]) (lookO [(8303, .arr 3 bs_1.length (fFeat bs_1)), (8304, .arr 3 fs_1.length (fFeat fs_1))]) ∧ ((agTrained aT : AV) = agTrained aT) ∧ True, CallOK Try.prog 9 [slFeat false aSample] (lookO []) false (.arr 8301) (lookO [(8301, .arr 3 ys_2.length (fFeat ys_2))]) ∧ ((slFeat false aSample : AV) = slFeat false aSample) ∧ True, Con Try.prog 7 [.agg [Sv aT.Label, slFeat false bs_1, slFeat false fs_1, I aT.Count], slFeat false ys_2, I aBand, I aShare] true (.tup [agTrainedT v_3, I c_3]) ∧ ((valOf (Sv aT.Label) = valOf (Sv aT.Label)) ∧ ((false = true → true = true) ∧ 3 = 3 ∧ bs_1.length = bs_1.length ∧ ∀ i, i < bs_1.length → (fFeat bs_1) i = (fFeat bs_1) i ∨ (AV.idsL ((fFeat bs_1) i) = [] ∧ leL (fun _ => none) false ((fFeat bs_1) i) ((fFeat bs_1) i))) ∧ ((false = true → true = true) ∧ 3 = 3 ∧ fs_1.length = fs_1.length ∧ ∀ i, i < fs_1.length → (fFeat fs_1) i = (fFeat fs_1) i ∨ (AV.idsL ((fFeat fs_1) i) = [] ∧ leL (fun _ => none) false ((fFeat fs_1) i) ((fFeat fs_1) i))) ∧ (valOf (I aT.Count) = valOf (I aT.Count)) ∧ ([] : List AV) = []) ∧ ((false = true → true = true) ∧ 3 = 3 ∧ ys_2.length = ys_2.length ∧ ∀ i, i < ys_2.length → (fFeat ys_2) i = (fFeat ys_2) i ∨ (AV.idsL ((fFeat ys_2) i) = [] ∧ leL (fun _ => none) false ((fFeat ys_2) i) ((fFeat ys_2) i))) ∧ ((I aBand : AV) = I aBand) ∧ ((I aShare : AV) = I aShare) ∧ True] (by kernel_rfl) hB ⟨⟨hc1, rfl, trivial⟩, ⟨hc2, rfl, trivial⟩, ⟨hc3, ⟨rfl, ⟨⟨(fun h => by cases h), rfl, rfl, fun i _ => .inl rfl⟩, ⟨⟨(fun h => by cases h), rfl, rfl, fun i _ => .inl rfl⟩, ⟨rfl, rfl⟩⟩⟩⟩, ⟨(fun h => by cases h), rfl, rfl, fun i _ => .inl rfl⟩, rfl, rfl, trivial⟩, trivial⟩ ?_
    refine ae_then ?_
    refine aw_seq ?_
    refine aw_reg [(1, .lend [] [(8303, .arr 3 bs_1.length (fFeat bs_1)), (8304, .arr 3 fs_1.length (fFeat fs_1))] [(true, agTrained aT)] false (.agg [Sv aT.Label, .arr 8303, .arr 8304, I aT.Count])), (2, .new 12)] [1, 2, 3, 4, 10, 11, 12] [4, 10, 12, 8303, 8304] [slFeat false aSample, I aBand, I aShare, .ref 4 0, .ref 10 0, I c_3, .ref 12 0] [some (bxTrained aT), some (bxTrainedT v_3), some (.box [Sv aT.Label, .arr 8303, .arr 8304, I aT.Count]), some (.arr 3 bs_1.length (fFeat bs_1)), some (.arr 3 fs_1.length (fFeat fs_1))] [CallOK Try.prog 8 [agTrained aT] (lookO []) false (.agg [Sv aT.Label, .arr 8303, .arr 8304, I aT.Count]) (lookO [(8303, .arr 3 bs_1.length (fFeat bs_1)), (8304, .arr 3 fs_1.length (fFeat fs_1))]) ∧ ((agTrained aT : AV) = agTrained aT) ∧ True] (by kernel_rfl) hB ⟨⟨hc1, rfl, trivial⟩, trivial⟩ ?_
    refine ae_then ?_
    refine aw_seq ?_
    refine aw_reg [(1, .lend [] [(8301, .arr 3 ys_2.length (fFeat ys_2))] [(true, slFeat false aSample)] false (.arr 8301))] [1, 2, 3, 4, 10, 11, 12, 13] [4, 10, 12, 8301, 8303, 8304] [slFeat false aSample, I aBand, I aShare, .ref 4 0, .ref 10 0, I c_3, .ref 12 0, .arr 8301] [some (bxTrained aT), some (bxTrainedT v_3), some (.box [Sv aT.Label, .arr 8303, .arr 8304, I aT.Count]), some (.arr 3 ys_2.length (fFeat ys_2)), some (.arr 3 bs_1.length (fFeat bs_1)), some (.arr 3 fs_1.length (fFeat fs_1))] [CallOK Try.prog 9 [slFeat false aSample] (lookO []) false (.arr 8301) (lookO [(8301, .arr 3 ys_2.length (fFeat ys_2))]) ∧ ((slFeat false aSample : AV) = slFeat false aSample) ∧ True] (by kernel_rfl) hB ⟨⟨hc2, rfl, trivial⟩, trivial⟩ ?_
    refine ae_then ?_
    refine aw_seq ?_
    obtain ⟨bs_4, fs_4, hx4_0, hx4_1, hc4⟩ := implAdaptTrained_ok (Trained.mk aT.Label bs_1 fs_1 aT.Count) ys_2 aBand aShare ok_aT
    have hL_bs_4 : bs_4.length ≤ 72 ∧ fs_4.length ≤ 72 := by rw [hx4_0, hx4_1]; exact adR_len _ _ _ _
    refine aw_reg [(4, .lendT [] [(8311, .arr 3 bs_4.length (fFeat bs_4)), (8312, .arr 3 fs_4.length (fFeat fs_4))] [(false, .agg [Sv aT.Label, slFeat false bs_1, slFeat false fs_1, I aT.Count]), (false, slFeat false ys_2), (true, I aBand), (true, I aShare)] false (.tup [.agg [Sv ((adR (Trained.mk aT.Label bs_1 fs_1 aT.Count) ys_2 aBand aShare).1.Label), .arr 8311, .arr 8312, I ((adR (Trained.mk aT.Label bs_1 fs_1 aT.Count) ys_2 aBand aShare).1.Count)], I ((adR (Trained.mk aT.Label bs_1 fs_1 aT.Count) ys_2 aBand aShare).2)])), (8, .new 14)] [1, 2, 3, 4, 10, 11, 12, 13, 14, 15] [4, 10, 12, 14, 8301, 8303, 8304, 8311, 8312] [slFeat false aSample, I aBand, I aShare, .ref 4 0, .ref 10 0, I c_3, .ref 12 0, .arr 8301, .ref 14 0, I ((adR (Trained.mk aT.Label bs_1 fs_1 aT.Count) ys_2 aBand aShare).2)] [some (bxTrained aT), some (bxTrainedT v_3), some (.box [Sv aT.Label, .arr 8303, .arr 8304, I aT.Count]), some (.box [Sv ((adR (Trained.mk aT.Label bs_1 fs_1 aT.Count) ys_2 aBand aShare).1.Label), .arr 8311, .arr 8312, I ((adR (Trained.mk aT.Label bs_1 fs_1 aT.Count) ys_2 aBand aShare).1.Count)]), some (.arr 3 ys_2.length (fFeat ys_2)), some (.arr 3 bs_1.length (fFeat bs_1)), some (.arr 3 fs_1.length (fFeat fs_1)), some (.arr 3 bs_4.length (fFeat bs_4)), some (.arr 3 fs_4.length (fFeat fs_4))] [CallOK Try.prog 10 [.agg [Sv aT.Label, slFeat false bs_1, slFeat false fs_1, I aT.Count], slFeat false ys_2, I aBand, I aShare] (lookO []) false (.tup [.agg [Sv ((adR (Trained.mk aT.Label bs_1 fs_1 aT.Count) ys_2 aBand aShare).1.Label), .arr 8311, .arr 8312, I ((adR (Trained.mk aT.Label bs_1 fs_1 aT.Count) ys_2 aBand aShare).1.Count)], I ((adR (Trained.mk aT.Label bs_1 fs_1 aT.Count) ys_2 aBand aShare).2)]) (lookO [(8311, .arr 3 bs_4.length (fFeat bs_4)), (8312, .arr 3 fs_4.length (fFeat fs_4))]) ∧ allTag [(8311, .arr 3 bs_4.length (fFeat bs_4)), (8312, .arr 3 fs_4.length (fFeat fs_4))] ∧ tagged true (.tup [.agg [Sv ((adR (Trained.mk aT.Label bs_1 fs_1 aT.Count) ys_2 aBand aShare).1.Label), .arr 8311, .arr 8312, I ((adR (Trained.mk aT.Label bs_1 fs_1 aT.Count) ys_2 aBand aShare).1.Count)], I ((adR (Trained.mk aT.Label bs_1 fs_1 aT.Count) ys_2 aBand aShare).2)]) ∧ ((valOf (Sv aT.Label) = valOf (Sv aT.Label)) ∧ ((false = true → true = true) ∧ 3 = 3 ∧ bs_1.length = bs_1.length ∧ ∀ i, i < bs_1.length → (fFeat bs_1) i = (fFeat bs_1) i ∨ (AV.idsL ((fFeat bs_1) i) = [] ∧ leL (fun _ => none) false ((fFeat bs_1) i) ((fFeat bs_1) i))) ∧ ((false = true → true = true) ∧ 3 = 3 ∧ fs_1.length = fs_1.length ∧ ∀ i, i < fs_1.length → (fFeat fs_1) i = (fFeat fs_1) i ∨ (AV.idsL ((fFeat fs_1) i) = [] ∧ leL (fun _ => none) false ((fFeat fs_1) i) ((fFeat fs_1) i))) ∧ (valOf (I aT.Count) = valOf (I aT.Count)) ∧ ([] : List AV) = []) ∧ ((false = true → true = true) ∧ 3 = 3 ∧ ys_2.length = ys_2.length ∧ ∀ i, i < ys_2.length → (fFeat ys_2) i = (fFeat ys_2) i ∨ (AV.idsL ((fFeat ys_2) i) = [] ∧ leL (fun _ => none) false ((fFeat ys_2) i) ((fFeat ys_2) i))) ∧ ((I aBand : AV) = I aBand) ∧ ((I aShare : AV) = I aShare) ∧ True] (by kernel_rfl) hB ⟨⟨hc4, ⟨(fun _ _ => tagcFeat true _), (fun _ _ => tagcFeat true _), trivial⟩, (by simp [tagged, taggedL]), ⟨rfl, ⟨⟨(fun h => by cases h), rfl, rfl, fun i _ => .inl rfl⟩, ⟨⟨(fun h => by cases h), rfl, rfl, fun i _ => .inl rfl⟩, ⟨rfl, rfl⟩⟩⟩⟩, ⟨(fun h => by cases h), rfl, rfl, fun i _ => .inl rfl⟩, rfl, rfl, trivial⟩, trivial⟩ ?_
    refine ae_then ?_
    refine aw_seq ?_
    refine aw_seq ?_
    refine aw_reg [(2, .call [(false, .agg [Sv ((adR (Trained.mk aT.Label bs_1 fs_1 aT.Count) ys_2 aBand aShare).1.Label), slFeat false bs_4, slFeat false fs_4, I ((adR (Trained.mk aT.Label bs_1 fs_1 aT.Count) ys_2 aBand aShare).1.Count)]), (false, agTrained v_3)] true (Bv true)), (7, .dec false)] [1, 2, 3, 4, 10, 11, 12, 13, 14, 15, 61] [4, 10, 12, 14, 8301, 8303, 8304, 8311, 8312] [slFeat false aSample, I aBand, I aShare, .ref 4 0, .ref 10 0, I c_3, .ref 12 0, .arr 8301, .ref 14 0, I ((adR (Trained.mk aT.Label bs_1 fs_1 aT.Count) ys_2 aBand aShare).2), Bv false] [some (bxTrained aT), some (bxTrainedT v_3), some (.box [Sv aT.Label, .arr 8303, .arr 8304, I aT.Count]), some (.box [Sv ((adR (Trained.mk aT.Label bs_1 fs_1 aT.Count) ys_2 aBand aShare).1.Label), .arr 8311, .arr 8312, I ((adR (Trained.mk aT.Label bs_1 fs_1 aT.Count) ys_2 aBand aShare).1.Count)]), some (.arr 3 ys_2.length (fFeat ys_2)), some (.arr 3 bs_1.length (fFeat bs_1)), some (.arr 3 fs_1.length (fFeat fs_1)), some (.arr 3 bs_4.length (fFeat bs_4)), some (.arr 3 fs_4.length (fFeat fs_4))] [Con Try.prog 11 [.agg [Sv ((adR (Trained.mk aT.Label bs_1 fs_1 aT.Count) ys_2 aBand aShare).1.Label), slFeat false bs_4, slFeat false fs_4, I ((adR (Trained.mk aT.Label bs_1 fs_1 aT.Count) ys_2 aBand aShare).1.Count)], agTrained v_3] true (Bv true) ∧ ((valOf (Sv ((adR (Trained.mk aT.Label bs_1 fs_1 aT.Count) ys_2 aBand aShare).1.Label)) = valOf (Sv ((adR (Trained.mk aT.Label bs_1 fs_1 aT.Count) ys_2 aBand aShare).1.Label))) ∧ ((false = true → true = true) ∧ 3 = 3 ∧ bs_4.length = bs_4.length ∧ ∀ i, i < bs_4.length → (fFeat bs_4) i = (fFeat bs_4) i ∨ (AV.idsL ((fFeat bs_4) i) = [] ∧ leL (fun _ => none) false ((fFeat bs_4) i) ((fFeat bs_4) i))) ∧ ((false = true → true = true) ∧ 3 = 3 ∧ fs_4.length = fs_4.length ∧ ∀ i, i < fs_4.length → (fFeat fs_4) i = (fFeat fs_4) i ∨ (AV.idsL ((fFeat fs_4) i) = [] ∧ leL (fun _ => none) false ((fFeat fs_4) i) ((fFeat fs_4) i))) ∧ (valOf (I ((adR (Trained.mk aT.Label bs_1 fs_1 aT.Count) ys_2 aBand aShare).1.Count)) = valOf (I ((adR (Trained.mk aT.Label bs_1 fs_1 aT.Count) ys_2 aBand aShare).1.Count))) ∧ ([] : List AV) = []) ∧ ((valOf (Sv v_3.Label) = valOf (Sv v_3.Label)) ∧ ((false = true → true = true) ∧ 3 = 3 ∧ v_3.Base.length = v_3.Base.length ∧ ∀ i, i < v_3.Base.length → (fFeat v_3.Base) i = (fFeat v_3.Base) i ∨ (AV.idsL ((fFeat v_3.Base) i) = [] ∧ leL (fun _ => none) false ((fFeat v_3.Base) i) ((fFeat v_3.Base) i))) ∧ ((false = true → true = true) ∧ 3 = 3 ∧ v_3.Feats.length = v_3.Feats.length ∧ ∀ i, i < v_3.Feats.length → (fFeat v_3.Feats) i = (fFeat v_3.Feats) i ∨ (AV.idsL ((fFeat v_3.Feats) i) = [] ∧ leL (fun _ => none) false ((fFeat v_3.Feats) i) ((fFeat v_3.Feats) i))) ∧ (valOf (I v_3.Count) = valOf (I v_3.Count)) ∧ ([] : List AV) = []) ∧ True, ¬ (((adR (Trained.mk aT.Label bs_1 fs_1 aT.Count) ys_2 aBand aShare).2) ≠ c_3)] (by kernel_rfl) hB ⟨⟨(con_bool (by subst_vars; exact same_self _) (eqTrained_ok (Trained.mk ((adR (Trained.mk aT.Label bs_1 fs_1 aT.Count) ys_2 aBand aShare).1.Label) bs_4 fs_4 ((adR (Trained.mk aT.Label bs_1 fs_1 aT.Count) ys_2 aBand aShare).1.Count)) v_3)), ⟨rfl, ⟨⟨(fun h => by cases h), rfl, rfl, fun i _ => .inl rfl⟩, ⟨⟨(fun h => by cases h), rfl, rfl, fun i _ => .inl rfl⟩, ⟨rfl, rfl⟩⟩⟩⟩, ⟨rfl, ⟨⟨(fun h => by cases h), rfl, rfl, fun i _ => .inl rfl⟩, ⟨⟨(fun h => by cases h), rfl, rfl, fun i _ => .inl rfl⟩, ⟨rfl, rfl⟩⟩⟩⟩, trivial⟩, (fun hq => hq (by subst_vars; rfl)), trivial⟩ ?_
    refine ae_then ?_
    refine aw_false rfl ?_
    refine aw_skip ?_
    refine ae_then ?_
    refine aw_seq ?_
    refine aw_seq ?_
    refine aw_weak hB [(7901, 8303), (7902, 8304)] (T := [(1, slFeat false aSample), (2, I aBand), (3, I aShare), (4, .ref 4 0), (10, .ref 10 0), (11, I c_3), (12, .ref 12 0), (13, .arr 8301), (14, .ref 14 0), (15, I ((adR (Trained.mk aT.Label bs_1 fs_1 aT.Count) ys_2 aBand aShare).2)), (61, Bv false)]) (O := [(4, bxTrained aT), (10, bxTrainedT v_3), (12, .box [Sv aT.Label, .arr 7901, .arr 7902, I aT.Count]), (14, .box [Sv ((adR (Trained.mk aT.Label bs_1 fs_1 aT.Count) ys_2 aBand aShare).1.Label), .arr 8311, .arr 8312, I ((adR (Trained.mk aT.Label bs_1 fs_1 aT.Count) ys_2 aBand aShare).1.Count)]), (7901, .arr 3 bs_1.length (fFeat bs_1)), (7902, .arr 3 fs_1.length (fFeat fs_1)), (8301, .arr 3 ys_2.length (fFeat ys_2)), (8311, .arr 3 bs_4.length (fFeat bs_4)), (8312, .arr 3 fs_4.length (fFeat fs_4))]) rfl (⟨.inl rfl, .inl rfl, .inl rfl, .inl rfl, .inl rfl, .inl rfl, .inl rfl, .inl rfl, .inl rfl, .inl rfl, .inl rfl, trivial⟩) (⟨.inl rfl, .inl rfl, .inl rfl, .inl rfl, .inl rfl, .inl rfl, .inl rfl, .inl rfl, .inl rfl, trivial⟩) ?_
    refine aw_reg [(2, .lend [] [(8303, .arr 3 bs_1.length (fFeat bs_1)), (8304, .arr 3 fs_1.length (fFeat fs_1))] [(true, agTrained aT)] false (.agg [Sv aT.Label, .arr 8303, .arr 8304, I aT.Count])), (3, .call [(false, .agg [Sv aT.Label, slFeat false bs_1, slFeat false fs_1, I aT.Count]), (false, .agg [Sv aT.Label, slFeat false bs_1, slFeat false fs_1, I aT.Count])] true (Bv true))] [1, 2, 3, 4, 10, 11, 12, 13, 14, 15, 66] [4, 10, 12, 14, 7901, 7902, 8301, 8311, 8312] [slFeat false aSample, I aBand, I aShare, .ref 4 0, .ref 10 0, I c_3, .ref 12 0, .arr 8301, .ref 14 0, I ((adR (Trained.mk aT.Label bs_1 fs_1 aT.Count) ys_2 aBand aShare).2), Bv false] [some (bxTrained aT), some (bxTrainedT v_3), some (.box [Sv aT.Label, .arr 7901, .arr 7902, I aT.Count]), some (.box [Sv ((adR (Trained.mk aT.Label bs_1 fs_1 aT.Count) ys_2 aBand aShare).1.Label), .arr 8311, .arr 8312, I ((adR (Trained.mk aT.Label bs_1 fs_1 aT.Count) ys_2 aBand aShare).1.Count)]), some (.arr 3 bs_1.length (fFeat bs_1)), some (.arr 3 fs_1.length (fFeat fs_1)), some (.arr 3 ys_2.length (fFeat ys_2)), some (.arr 3 bs_4.length (fFeat bs_4)), some (.arr 3 fs_4.length (fFeat fs_4))] [CallOK Try.prog 8 [agTrained aT] (lookO []) false (.agg [Sv aT.Label, .arr 8303, .arr 8304, I aT.Count]) (lookO [(8303, .arr 3 bs_1.length (fFeat bs_1)), (8304, .arr 3 fs_1.length (fFeat fs_1))]) ∧ ((agTrained aT : AV) = agTrained aT) ∧ True, Con Try.prog 11 [.agg [Sv aT.Label, slFeat false bs_1, slFeat false fs_1, I aT.Count], .agg [Sv aT.Label, slFeat false bs_1, slFeat false fs_1, I aT.Count]] true (Bv true) ∧ ((valOf (Sv aT.Label) = valOf (Sv aT.Label)) ∧ ((false = true → true = true) ∧ 3 = 3 ∧ bs_1.length = bs_1.length ∧ ∀ i, i < bs_1.length → (fFeat bs_1) i = (fFeat bs_1) i ∨ (AV.idsL ((fFeat bs_1) i) = [] ∧ leL (fun _ => none) false ((fFeat bs_1) i) ((fFeat bs_1) i))) ∧ ((false = true → true = true) ∧ 3 = 3 ∧ fs_1.length = fs_1.length ∧ ∀ i, i < fs_1.length → (fFeat fs_1) i = (fFeat fs_1) i ∨ (AV.idsL ((fFeat fs_1) i) = [] ∧ leL (fun _ => none) false ((fFeat fs_1) i) ((fFeat fs_1) i))) ∧ (valOf (I aT.Count) = valOf (I aT.Count)) ∧ ([] : List AV) = []) ∧ ((valOf (Sv aT.Label) = valOf (Sv aT.Label)) ∧ ((false = true → true = true) ∧ 3 = 3 ∧ bs_1.length = bs_1.length ∧ ∀ i, i < bs_1.length → (fFeat bs_1) i = (fFeat bs_1) i ∨ (AV.idsL ((fFeat bs_1) i) = [] ∧ leL (fun _ => none) false ((fFeat bs_1) i) ((fFeat bs_1) i))) ∧ ((false = true → true = true) ∧ 3 = 3 ∧ fs_1.length = fs_1.length ∧ ∀ i, i < fs_1.length → (fFeat fs_1) i = (fFeat fs_1) i ∨ (AV.idsL ((fFeat fs_1) i) = [] ∧ leL (fun _ => none) false ((fFeat fs_1) i) ((fFeat fs_1) i))) ∧ (valOf (I aT.Count) = valOf (I aT.Count)) ∧ ([] : List AV) = []) ∧ True] (by kernel_rfl) hB ⟨⟨hc1, rfl, trivial⟩, ⟨(con_bool (by subst_vars; exact same_self _) (eqTrained_ok (Trained.mk aT.Label bs_1 fs_1 aT.Count) (Trained.mk aT.Label bs_1 fs_1 aT.Count))), ⟨rfl, ⟨⟨(fun h => by cases h), rfl, rfl, fun i _ => .inl rfl⟩, ⟨⟨(fun h => by cases h), rfl, rfl, fun i _ => .inl rfl⟩, ⟨rfl, rfl⟩⟩⟩⟩, ⟨rfl, ⟨⟨(fun h => by cases h), rfl, rfl, fun i _ => .inl rfl⟩, ⟨⟨(fun h => by cases h), rfl, rfl, fun i _ => .inl rfl⟩, ⟨rfl, rfl⟩⟩⟩⟩, trivial⟩, trivial⟩ ?_
    refine ae_then ?_
    refine aw_false rfl ?_
    refine aw_skip ?_
    refine ae_then ?_
    refine aw_seq ?_
    refine aw_seq ?_
    refine aw_weak hB [(7903, 8301)] (T := [(1, slFeat false aSample), (2, I aBand), (3, I aShare), (4, .ref 4 0), (10, .ref 10 0), (11, I c_3), (12, .ref 12 0), (13, .arr 7903), (14, .ref 14 0), (15, I ((adR (Trained.mk aT.Label bs_1 fs_1 aT.Count) ys_2 aBand aShare).2)), (66, Bv false)]) (O := [(4, bxTrained aT), (10, bxTrainedT v_3), (12, .box [Sv aT.Label, .arr 7901, .arr 7902, I aT.Count]), (14, .box [Sv ((adR (Trained.mk aT.Label bs_1 fs_1 aT.Count) ys_2 aBand aShare).1.Label), .arr 8311, .arr 8312, I ((adR (Trained.mk aT.Label bs_1 fs_1 aT.Count) ys_2 aBand aShare).1.Count)]), (7901, .arr 3 bs_1.length (fFeat bs_1)), (7902, .arr 3 fs_1.length (fFeat fs_1)), (7903, .arr 3 ys_2.length (fFeat ys_2)), (8311, .arr 3 bs_4.length (fFeat bs_4)), (8312, .arr 3 fs_4.length (fFeat fs_4))]) rfl (⟨.inl rfl, .inl rfl, .inl rfl, .inl rfl, .inl rfl, .inl rfl, .inl rfl, .inl rfl, .inl rfl, .inl rfl, .inl rfl, trivial⟩) (⟨.inl rfl, .inl rfl, .inl rfl, .inl rfl, .inl rfl, .inl rfl, .inl rfl, .inl rfl, .inl rfl, trivial⟩) ?_
    refine aw_reg [(2, .lend [] [(8301, .arr 3 ys_2.length (fFeat ys_2))] [(true, slFeat false aSample)] false (.arr 8301)), (3, .call [(false, slFeat false ys_2), (false, slFeat false ys_2)] true (Bv true))] [1, 2, 3, 4, 10, 11, 12, 13, 14, 15, 71] [4, 10, 12, 14, 7901, 7902, 7903, 8311, 8312] [slFeat false aSample, I aBand, I aShare, .ref 4 0, .ref 10 0, I c_3, .ref 12 0, .arr 7903, .ref 14 0, I ((adR (Trained.mk aT.Label bs_1 fs_1 aT.Count) ys_2 aBand aShare).2), Bv false] [some (bxTrained aT), some (bxTrainedT v_3), some (.box [Sv aT.Label, .arr 7901, .arr 7902, I aT.Count]), some (.box [Sv ((adR (Trained.mk aT.Label bs_1 fs_1 aT.Count) ys_2 aBand aShare).1.Label), .arr 8311, .arr 8312, I ((adR (Trained.mk aT.Label bs_1 fs_1 aT.Count) ys_2 aBand aShare).1.Count)]), some (.arr 3 bs_1.length (fFeat bs_1)), some (.arr 3 fs_1.length (fFeat fs_1)), some (.arr 3 ys_2.length (fFeat ys_2)), some (.arr 3 bs_4.length (fFeat bs_4)), some (.arr 3 fs_4.length (fFeat fs_4))] [CallOK Try.prog 9 [slFeat false aSample] (lookO []) false (.arr 8301) (lookO [(8301, .arr 3 ys_2.length (fFeat ys_2))]) ∧ ((slFeat false aSample : AV) = slFeat false aSample) ∧ True, Con Try.prog 12 [slFeat false ys_2, slFeat false ys_2] true (Bv true) ∧ ((false = true → true = true) ∧ 3 = 3 ∧ ys_2.length = ys_2.length ∧ ∀ i, i < ys_2.length → (fFeat ys_2) i = (fFeat ys_2) i ∨ (AV.idsL ((fFeat ys_2) i) = [] ∧ leL (fun _ => none) false ((fFeat ys_2) i) ((fFeat ys_2) i))) ∧ ((false = true → true = true) ∧ 3 = 3 ∧ ys_2.length = ys_2.length ∧ ∀ i, i < ys_2.length → (fFeat ys_2) i = (fFeat ys_2) i ∨ (AV.idsL ((fFeat ys_2) i) = [] ∧ leL (fun _ => none) false ((fFeat ys_2) i) ((fFeat ys_2) i))) ∧ True] (by kernel_rfl) hB ⟨⟨hc2, rfl, trivial⟩, ⟨(con_bool (by subst_vars; exact same_self _) (eqFeatS_ok ys_2 ys_2)), ⟨(fun h => by cases h), rfl, rfl, fun i _ => .inl rfl⟩, ⟨(fun h => by cases h), rfl, rfl, fun i _ => .inl rfl⟩, trivial⟩, trivial⟩ ?_
    refine ae_then ?_
    refine aw_false rfl ?_
    refine aw_skip ?_
    refine ae_then ?_
    refine aw_seq ?_
    refine aw_reg [] [1, 2, 3, 4, 10, 11, 12, 13, 14, 15, 16] [4, 10, 12, 14, 7901, 7902, 7903, 8311, 8312] [slFeat false aSample, I aBand, I aShare, .ref 4 0, .ref 10 0, I c_3, .ref 12 0, .arr 7903, .ref 14 0, I ((adR (Trained.mk aT.Label bs_1 fs_1 aT.Count) ys_2 aBand aShare).2), I 1] [some (bxTrained aT), some (bxTrainedT v_3), some (.box [Sv aT.Label, .arr 7901, .arr 7902, I aT.Count]), some (.box [Sv ((adR (Trained.mk aT.Label bs_1 fs_1 aT.Count) ys_2 aBand aShare).1.Label), .arr 8311, .arr 8312, I ((adR (Trained.mk aT.Label bs_1 fs_1 aT.Count) ys_2 aBand aShare).1.Count)]), some (.arr 3 bs_1.length (fFeat bs_1)), some (.arr 3 fs_1.length (fFeat fs_1)), some (.arr 3 ys_2.length (fFeat ys_2)), some (.arr 3 bs_4.length (fFeat bs_4)), some (.arr 3 fs_4.length (fFeat fs_4))] [] (by kernel_rfl) hB trivial ?_
    refine ae_then ?_
    refine aw_seq ?_
    refine aw_weak hB [(7301, 7901), (7302, 7902)] (T := [(1, slFeat false aSample), (2, I aBand), (3, I aShare), (4, .ref 4 0), (10, .ref 10 0), (11, I c_3), (12, .ref 12 0), (13, .arr 7903), (14, .ref 14 0), (15, I ((adR (Trained.mk aT.Label bs_1 fs_1 aT.Count) ys_2 aBand aShare).2)), (16, I 1)]) (O := [(4, bxTrained aT), (10, bxTrainedT v_3), (12, .box [Sv aT.Label, .arr 7301, .arr 7302, I aT.Count]), (14, .box [Sv ((adR (Trained.mk aT.Label bs_1 fs_1 aT.Count) ys_2 aBand aShare).1.Label), .arr 8311, .arr 8312, I ((adR (Trained.mk aT.Label bs_1 fs_1 aT.Count) ys_2 aBand aShare).1.Count)]), (7301, .arr 3 bs_1.length (fFeat bs_1)), (7302, .arr 3 fs_1.length (fFeat fs_1)), (7903, .arr 3 ys_2.length (fFeat ys_2)), (8311, .arr 3 bs_4.length (fFeat bs_4)), (8312, .arr 3 fs_4.length (fFeat fs_4))]) rfl (⟨.inl rfl, .inl rfl, .inl rfl, .inl rfl, .inl rfl, .inl rfl, .inl rfl, .inl rfl, .inl rfl, .inl rfl, .inl rfl, trivial⟩) (⟨.inl rfl, .inl rfl, .inl rfl, .inl rfl, .inl rfl, .inl rfl, .inl rfl, .inl rfl, .inl rfl, trivial⟩) ?_
    obtain ⟨v_5, alBase_5, alFeats_5, hx5_0, hx5_1, hx5_2, hc5⟩ := markTrained_ok (Trained.mk aT.Label bs_1 fs_1 aT.Count) 1 (by (try simp only); omega)
    simp only at hx5_0
    refine aw_reg [(2, .lend [(7301, .arr 3 bs_1.length (fFeat bs_1), .arr 3 alBase_5.length (fFeat alBase_5)), (7302, .arr 3 fs_1.length (fFeat fs_1), .arr 3 alFeats_5.length (fFeat alFeats_5))] [] [(true, .agg [Sv aT.Label, .arr 7301, .arr 7302, I aT.Count]), (true, I 1)] true (I v_5))] [1, 2, 3, 4, 10, 11, 13, 14, 15, 16] [4, 10, 14, 7903, 8311, 8312] [slFeat false aSample, I aBand, I aShare, .ref 4 0, .ref 10 0, I c_3, .arr 7903, .ref 14 0, I ((adR (Trained.mk aT.Label bs_1 fs_1 aT.Count) ys_2 aBand aShare).2), I v_5] [some (bxTrained aT), some (bxTrainedT v_3), some (.box [Sv ((adR (Trained.mk aT.Label bs_1 fs_1 aT.Count) ys_2 aBand aShare).1.Label), .arr 8311, .arr 8312, I ((adR (Trained.mk aT.Label bs_1 fs_1 aT.Count) ys_2 aBand aShare).1.Count)]), some (.arr 3 ys_2.length (fFeat ys_2)), some (.arr 3 bs_4.length (fFeat bs_4)), some (.arr 3 fs_4.length (fFeat fs_4))] [CallOK Try.prog 13 [.agg [Sv aT.Label, .arr 7301, .arr 7302, I aT.Count], I 1] (lookO [(7301, .arr 3 bs_1.length (fFeat bs_1)), (7302, .arr 3 fs_1.length (fFeat fs_1))]) true (I v_5) (lookO [(7301, .arr 3 alBase_5.length (fFeat alBase_5)), (7302, .arr 3 alFeats_5.length (fFeat alFeats_5))]) ∧ ((.agg [Sv aT.Label, .arr 7301, .arr 7302, I aT.Count] : AV) = .agg [Sv aT.Label, .arr 7301, .arr 7302, I aT.Count]) ∧ ((I 1 : AV) = I 1) ∧ (((.arr 3 bs_1.length (fFeat bs_1) : Ob) = .arr 3 bs_1.length (fFeat bs_1) ∨ obLe noOb true (.arr 3 bs_1.length (fFeat bs_1)) (.arr 3 bs_1.length (fFeat bs_1))) ∧ taggedO false (.arr 3 bs_1.length (fFeat bs_1))) ∧ (((.arr 3 fs_1.length (fFeat fs_1) : Ob) = .arr 3 fs_1.length (fFeat fs_1) ∨ obLe noOb true (.arr 3 fs_1.length (fFeat fs_1)) (.arr 3 fs_1.length (fFeat fs_1))) ∧ taggedO false (.arr 3 fs_1.length (fFeat fs_1))) ∧ True] (by kernel_rfl) hB ⟨⟨hc5, rfl, rfl, ⟨.inl rfl, fun _ _ => tagcFeat false _⟩, ⟨.inl rfl, fun _ _ => tagcFeat false _⟩, trivial⟩, trivial⟩ ?_
    refine ae_then ?_
    refine aw_seq ?_
    refine aw_weak hB [(7301, 7903)] (T := [(1, slFeat false aSample), (2, I aBand), (3, I aShare), (4, .ref 4 0), (10, .ref 10 0), (11, I c_3), (13, .arr 7301), (14, .ref 14 0), (15, I ((adR (Trained.mk aT.Label bs_1 fs_1 aT.Count) ys_2 aBand aShare).2)), (16, I v_5)]) (O := [(4, bxTrained aT), (10, bxTrainedT v_3), (14, .box [Sv ((adR (Trained.mk aT.Label bs_1 fs_1 aT.Count) ys_2 aBand aShare).1.Label), .arr 8311, .arr 8312, I ((adR (Trained.mk aT.Label bs_1 fs_1 aT.Count) ys_2 aBand aShare).1.Count)]), (7301, .arr 3 ys_2.length (fFeat ys_2)), (8311, .arr 3 bs_4.length (fFeat bs_4)), (8312, .arr 3 fs_4.length (fFeat fs_4))]) rfl (⟨.inl rfl, .inl rfl, .inl rfl, .inl rfl, .inl rfl, .inl rfl, .inl rfl, .inl rfl, .inl rfl, .inl rfl, trivial⟩) (⟨.inl rfl, .inl rfl, .inl rfl, .inl rfl, .inl rfl, .inl rfl, trivial⟩) ?_
    obtain ⟨v_6, al'_6, hx6_0, hx6_1, hc6⟩ := markFeatS0_ok ys_2 v_5 (by omega)
    refine aw_reg [(2, .lend [(7301, .arr 3 ys_2.length (fFeat ys_2), .arr 3 al'_6.length (fFeat al'_6))] [] [(true, .arr 7301), (true, I v_5)] true (I v_6))] [1, 2, 3, 4, 10, 11, 14, 15, 16] [4, 10, 14, 8311, 8312] [slFeat false aSample, I aBand, I aShare, .ref 4 0, .ref 10 0, I c_3, .ref 14 0, I ((adR (Trained.mk aT.Label bs_1 fs_1 aT.Count) ys_2 aBand aShare).2), I v_6] [some (bxTrained aT), some (bxTrainedT v_3), some (.box [Sv ((adR (Trained.mk aT.Label bs_1 fs_1 aT.Count) ys_2 aBand aShare).1.Label), .arr 8311, .arr 8312, I ((adR (Trained.mk aT.Label bs_1 fs_1 aT.Count) ys_2 aBand aShare).1.Count)]), some (.arr 3 bs_4.length (fFeat bs_4)), some (.arr 3 fs_4.length (fFeat fs_4))] [CallOK Try.prog 14 [.arr 7301, I v_5] (lookO [(7301, .arr 3 ys_2.length (fFeat ys_2))]) true (I v_6) (lookO [(7301, .arr 3 al'_6.length (fFeat al'_6))]) ∧ ((.arr 7301 : AV) = .arr 7301) ∧ ((I v_5 : AV) = I v_5) ∧ (((.arr 3 ys_2.length (fFeat ys_2) : Ob) = .arr 3 ys_2.length (fFeat ys_2) ∨ obLe noOb true (.arr 3 ys_2.length (fFeat ys_2)) (.arr 3 ys_2.length (fFeat ys_2))) ∧ taggedO false (.arr 3 ys_2.length (fFeat ys_2))) ∧ True] (by kernel_rfl) hB ⟨⟨hc6, rfl, rfl, ⟨.inl rfl, fun _ _ => tagcFeat false _⟩, trivial⟩, trivial⟩ ?_
    refine ae_then ?_
    refine aw_seq ?_
    refine aw_seq ?_
    refine aw_reg [(1, .dec false), (5, .call [(false, .agg [Sv ((adR (Trained.mk aT.Label bs_1 fs_1 aT.Count) ys_2 aBand aShare).1.Label), slFeat false bs_4, slFeat false fs_4, I ((adR (Trained.mk aT.Label bs_1 fs_1 aT.Count) ys_2 aBand aShare).1.Count)]), (false, agTrained v_3)] true (Bv true)), (11, .dec false)] [1, 2, 3, 4, 10, 11, 14, 90] [4, 10, 14, 8311, 8312] [slFeat false aSample, I aBand, I aShare, .ref 4 0, .ref 10 0, I c_3, .ref 14 0, Bv false] [some (bxTrained aT), some (bxTrainedT v_3), some (.box [Sv ((adR (Trained.mk aT.Label bs_1 fs_1 aT.Count) ys_2 aBand aShare).1.Label), .arr 8311, .arr 8312, I ((adR (Trained.mk aT.Label bs_1 fs_1 aT.Count) ys_2 aBand aShare).1.Count)]), some (.arr 3 bs_4.length (fFeat bs_4)), some (.arr 3 fs_4.length (fFeat fs_4))] [¬ (v_6 < 0), Con Try.prog 11 [.agg [Sv ((adR (Trained.mk aT.Label bs_1 fs_1 aT.Count) ys_2 aBand aShare).1.Label), slFeat false bs_4, slFeat false fs_4, I ((adR (Trained.mk aT.Label bs_1 fs_1 aT.Count) ys_2 aBand aShare).1.Count)], agTrained v_3] true (Bv true) ∧ ((valOf (Sv ((adR (Trained.mk aT.Label bs_1 fs_1 aT.Count) ys_2 aBand aShare).1.Label)) = valOf (Sv ((adR (Trained.mk aT.Label bs_1 fs_1 aT.Count) ys_2 aBand aShare).1.Label))) ∧ ((false = true → true = true) ∧ 3 = 3 ∧ bs_4.length = bs_4.length ∧ ∀ i, i < bs_4.length → (fFeat bs_4) i = (fFeat bs_4) i ∨ (AV.idsL ((fFeat bs_4) i) = [] ∧ leL (fun _ => none) false ((fFeat bs_4) i) ((fFeat bs_4) i))) ∧ ((false = true → true = true) ∧ 3 = 3 ∧ fs_4.length = fs_4.length ∧ ∀ i, i < fs_4.length → (fFeat fs_4) i = (fFeat fs_4) i ∨ (AV.idsL ((fFeat fs_4) i) = [] ∧ leL (fun _ => none) false ((fFeat fs_4) i) ((fFeat fs_4) i))) ∧ (valOf (I ((adR (Trained.mk aT.Label bs_1 fs_1 aT.Count) ys_2 aBand aShare).1.Count)) = valOf (I ((adR (Trained.mk aT.Label bs_1 fs_1 aT.Count) ys_2 aBand aShare).1.Count))) ∧ ([] : List AV) = []) ∧ ((valOf (Sv v_3.Label) = valOf (Sv v_3.Label)) ∧ ((false = true → true = true) ∧ 3 = 3 ∧ v_3.Base.length = v_3.Base.length ∧ ∀ i, i < v_3.Base.length → (fFeat v_3.Base) i = (fFeat v_3.Base) i ∨ (AV.idsL ((fFeat v_3.Base) i) = [] ∧ leL (fun _ => none) false ((fFeat v_3.Base) i) ((fFeat v_3.Base) i))) ∧ ((false = true → true = true) ∧ 3 = 3 ∧ v_3.Feats.length = v_3.Feats.length ∧ ∀ i, i < v_3.Feats.length → (fFeat v_3.Feats) i = (fFeat v_3.Feats) i ∨ (AV.idsL ((fFeat v_3.Feats) i) = [] ∧ leL (fun _ => none) false ((fFeat v_3.Feats) i) ((fFeat v_3.Feats) i))) ∧ (valOf (I v_3.Count) = valOf (I v_3.Count)) ∧ ([] : List AV) = []) ∧ True, ¬ (((adR (Trained.mk aT.Label bs_1 fs_1 aT.Count) ys_2 aBand aShare).2) ≠ c_3)] (by kernel_rfl) hB ⟨(by (try simp only); omega), ⟨(con_bool (by subst_vars; exact same_self _) (eqTrained_ok (Trained.mk ((adR (Trained.mk aT.Label bs_1 fs_1 aT.Count) ys_2 aBand aShare).1.Label) bs_4 fs_4 ((adR (Trained.mk aT.Label bs_1 fs_1 aT.Count) ys_2 aBand aShare).1.Count)) v_3)), ⟨rfl, ⟨⟨(fun h => by cases h), rfl, rfl, fun i _ => .inl rfl⟩, ⟨⟨(fun h => by cases h), rfl, rfl, fun i _ => .inl rfl⟩, ⟨rfl, rfl⟩⟩⟩⟩, ⟨rfl, ⟨⟨(fun h => by cases h), rfl, rfl, fun i _ => .inl rfl⟩, ⟨⟨(fun h => by cases h), rfl, rfl, fun i _ => .inl rfl⟩, ⟨rfl, rfl⟩⟩⟩⟩, trivial⟩, (fun hq => hq (by subst_vars; rfl)), trivial⟩ ?_
    refine ae_then ?_
    refine aw_false rfl ?_
    refine aw_skip ?_
    refine ae_then ?_
    refine aw_seq ?_
    refine aw_reg [] [1, 2, 3, 4, 10, 11, 14, 17] [4, 10, 14, 8311, 8312] [slFeat false aSample, I aBand, I aShare, .ref 4 0, .ref 10 0, I c_3, .ref 14 0, I 1] [some (bxTrained aT), some (bxTrainedT v_3), some (.box [Sv ((adR (Trained.mk aT.Label bs_1 fs_1 aT.Count) ys_2 aBand aShare).1.Label), .arr 8311, .arr 8312, I ((adR (Trained.mk aT.Label bs_1 fs_1 aT.Count) ys_2 aBand aShare).1.Count)]), some (.arr 3 bs_4.length (fFeat bs_4)), some (.arr 3 fs_4.length (fFeat fs_4))] [] (by kernel_rfl) hB trivial ?_
    refine ae_then ?_
    refine aw_seq ?_
    refine aw_weak hB [(7301, 8311), (7302, 8312)] (T := [(1, slFeat false aSample), (2, I aBand), (3, I aShare), (4, .ref 4 0), (10, .ref 10 0), (11, I c_3), (14, .ref 14 0), (17, I 1)]) (O := [(4, bxTrained aT), (10, bxTrainedT v_3), (14, .box [Sv ((adR (Trained.mk aT.Label bs_1 fs_1 aT.Count) ys_2 aBand aShare).1.Label), .arr 7301, .arr 7302, I ((adR (Trained.mk aT.Label bs_1 fs_1 aT.Count) ys_2 aBand aShare).1.Count)]), (7301, .arr 3 bs_4.length (fFeat bs_4)), (7302, .arr 3 fs_4.length (fFeat fs_4))]) rfl (⟨.inl rfl, .inl rfl, .inl rfl, .inl rfl, .inl rfl, .inl rfl, .inl rfl, .inl rfl, trivial⟩) (⟨.inl rfl, .inl rfl, .inl rfl, .inl rfl, .inl rfl, trivial⟩) ?_
    obtain ⟨v_7, alBase_7, alFeats_7, hx7_0, hx7_1, hx7_2, hc7⟩ := markTrained_ok (Trained.mk ((adR (Trained.mk aT.Label bs_1 fs_1 aT.Count) ys_2 aBand aShare).1.Label) bs_4 fs_4 ((adR (Trained.mk aT.Label bs_1 fs_1 aT.Count) ys_2 aBand aShare).1.Count)) 1 (by (try simp only); omega)
    have hm1 : alBase_7 = mkL 1 alBase_7.length := by rw [hx7_1, mkL_len]
    have hm2 : alFeats_7 = mkL (1 + 3 * (alBase_7.length : Int)) alFeats_7.length := by rw [hx7_2, hx7_1, mkL_len, mkL_len]
    have hm3 : alBase_7.length = ((Trained.mk ((adR (Trained.mk aT.Label bs_1 fs_1 aT.Count) ys_2 aBand aShare).1.Label) bs_4 fs_4 ((adR (Trained.mk aT.Label bs_1 fs_1 aT.Count) ys_2 aBand aShare).1.Count))).Base.length ∧ alFeats_7.length = ((Trained.mk ((adR (Trained.mk aT.Label bs_1 fs_1 aT.Count) ys_2 aBand aShare).1.Label) bs_4 fs_4 ((adR (Trained.mk aT.Label bs_1 fs_1 aT.Count) ys_2 aBand aShare).1.Count))).Feats.length := by rw [hx7_1, hx7_2, mkL_len, mkL_len]; exact ⟨rfl, rfl⟩
    simp only at hm3 hx7_0
    refine aw_reg [(2, .lend [(7301, .arr 3 bs_4.length (fFeat bs_4), .arr 3 alBase_7.length (fFeat alBase_7)), (7302, .arr 3 fs_4.length (fFeat fs_4), .arr 3 alFeats_7.length (fFeat alFeats_7))] [] [(true, .agg [Sv ((adR (Trained.mk aT.Label bs_1 fs_1 aT.Count) ys_2 aBand aShare).1.Label), .arr 7301, .arr 7302, I ((adR (Trained.mk aT.Label bs_1 fs_1 aT.Count) ys_2 aBand aShare).1.Count)]), (true, I 1)] true (I v_7))] [1, 2, 3, 4, 10, 11, 14, 17] [4, 10, 14, 7301, 7302] [slFeat false aSample, I aBand, I aShare, .ref 4 0, .ref 10 0, I c_3, .ref 14 0, I v_7] [some (bxTrained aT), some (bxTrainedT v_3), some (.box [Sv ((adR (Trained.mk aT.Label bs_1 fs_1 aT.Count) ys_2 aBand aShare).1.Label), .arr 7301, .arr 7302, I ((adR (Trained.mk aT.Label bs_1 fs_1 aT.Count) ys_2 aBand aShare).1.Count)]), some (.arr 3 alBase_7.length (fFeat alBase_7)), some (.arr 3 alFeats_7.length (fFeat alFeats_7))] [CallOK Try.prog 13 [.agg [Sv ((adR (Trained.mk aT.Label bs_1 fs_1 aT.Count) ys_2 aBand aShare).1.Label), .arr 7301, .arr 7302, I ((adR (Trained.mk aT.Label bs_1 fs_1 aT.Count) ys_2 aBand aShare).1.Count)], I 1] (lookO [(7301, .arr 3 bs_4.length (fFeat bs_4)), (7302, .arr 3 fs_4.length (fFeat fs_4))]) true (I v_7) (lookO [(7301, .arr 3 alBase_7.length (fFeat alBase_7)), (7302, .arr 3 alFeats_7.length (fFeat alFeats_7))]) ∧ ((.agg [Sv ((adR (Trained.mk aT.Label bs_1 fs_1 aT.Count) ys_2 aBand aShare).1.Label), .arr 7301, .arr 7302, I ((adR (Trained.mk aT.Label bs_1 fs_1 aT.Count) ys_2 aBand aShare).1.Count)] : AV) = .agg [Sv ((adR (Trained.mk aT.Label bs_1 fs_1 aT.Count) ys_2 aBand aShare).1.Label), .arr 7301, .arr 7302, I ((adR (Trained.mk aT.Label bs_1 fs_1 aT.Count) ys_2 aBand aShare).1.Count)]) ∧ ((I 1 : AV) = I 1) ∧ (((.arr 3 bs_4.length (fFeat bs_4) : Ob) = .arr 3 bs_4.length (fFeat bs_4) ∨ obLe noOb true (.arr 3 bs_4.length (fFeat bs_4)) (.arr 3 bs_4.length (fFeat bs_4))) ∧ taggedO false (.arr 3 bs_4.length (fFeat bs_4))) ∧ (((.arr 3 fs_4.length (fFeat fs_4) : Ob) = .arr 3 fs_4.length (fFeat fs_4) ∨ obLe noOb true (.arr 3 fs_4.length (fFeat fs_4)) (.arr 3 fs_4.length (fFeat fs_4))) ∧ taggedO false (.arr 3 fs_4.length (fFeat fs_4))) ∧ True] (by kernel_rfl) hB ⟨⟨hc7, rfl, rfl, ⟨.inl rfl, fun _ _ => tagcFeat false _⟩, ⟨.inl rfl, fun _ _ => tagcFeat false _⟩, trivial⟩, trivial⟩ ?_
    refine ae_then ?_
    refine aw_seq ?_
    refine aw_reg [] [1, 2, 3, 4, 10, 11, 14, 17, 18] [4, 10, 14, 7301, 7302] [slFeat false aSample, I aBand, I aShare, .ref 4 0, .ref 10 0, I c_3, .ref 14 0, I v_7, I 1] [some (bxTrained aT), some (bxTrainedT v_3), some (.box [Sv ((adR (Trained.mk aT.Label bs_1 fs_1 aT.Count) ys_2 aBand aShare).1.Label), .arr 7301, .arr 7302, I ((adR (Trained.mk aT.Label bs_1 fs_1 aT.Count) ys_2 aBand aShare).1.Count)]), some (.arr 3 alBase_7.length (fFeat alBase_7)), some (.arr 3 alFeats_7.length (fFeat alFeats_7))] [] (by kernel_rfl) hB trivial ?_
    refine ae_then ?_
    refine aw_seq ?_
    refine aw_reg [(2, .call [(false, .agg [Sv ((adR (Trained.mk aT.Label bs_1 fs_1 aT.Count) ys_2 aBand aShare).1.Label), slFeat false alBase_7, slFeat false alFeats_7, I ((adR (Trained.mk aT.Label bs_1 fs_1 aT.Count) ys_2 aBand aShare).1.Count)]), (true, I 1)] true (I (1 + 3 * ((Trained.mk ((adR (Trained.mk aT.Label bs_1 fs_1 aT.Count) ys_2 aBand aShare).1.Label) alBase_7 alFeats_7 ((adR (Trained.mk aT.Label bs_1 fs_1 aT.Count) ys_2 aBand aShare).1.Count)).Base.length : Int) + 3 * ((Trained.mk ((adR (Trained.mk aT.Label bs_1 fs_1 aT.Count) ys_2 aBand aShare).1.Label) alBase_7 alFeats_7 ((adR (Trained.mk aT.Label bs_1 fs_1 aT.Count) ys_2 aBand aShare).1.Count)).Feats.length : Int))))] [1, 2, 3, 4, 10, 11, 14, 17, 18] [4, 10, 14, 7301, 7302] [slFeat false aSample, I aBand, I aShare, .ref 4 0, .ref 10 0, I c_3, .ref 14 0, I v_7, I (1 + 3 * ((Trained.mk ((adR (Trained.mk aT.Label bs_1 fs_1 aT.Count) ys_2 aBand aShare).1.Label) alBase_7 alFeats_7 ((adR (Trained.mk aT.Label bs_1 fs_1 aT.Count) ys_2 aBand aShare).1.Count)).Base.length : Int) + 3 * ((Trained.mk ((adR (Trained.mk aT.Label bs_1 fs_1 aT.Count) ys_2 aBand aShare).1.Label) alBase_7 alFeats_7 ((adR (Trained.mk aT.Label bs_1 fs_1 aT.Count) ys_2 aBand aShare).1.Count)).Feats.length : Int))] [some (bxTrained aT), some (bxTrainedT v_3), some (.box [Sv ((adR (Trained.mk aT.Label bs_1 fs_1 aT.Count) ys_2 aBand aShare).1.Label), .arr 7301, .arr 7302, I ((adR (Trained.mk aT.Label bs_1 fs_1 aT.Count) ys_2 aBand aShare).1.Count)]), some (.arr 3 alBase_7.length (fFeat alBase_7)), some (.arr 3 alFeats_7.length (fFeat alFeats_7))] [Con Try.prog 15 [.agg [Sv ((adR (Trained.mk aT.Label bs_1 fs_1 aT.Count) ys_2 aBand aShare).1.Label), slFeat false alBase_7, slFeat false alFeats_7, I ((adR (Trained.mk aT.Label bs_1 fs_1 aT.Count) ys_2 aBand aShare).1.Count)], I 1] true (I (1 + 3 * ((Trained.mk ((adR (Trained.mk aT.Label bs_1 fs_1 aT.Count) ys_2 aBand aShare).1.Label) alBase_7 alFeats_7 ((adR (Trained.mk aT.Label bs_1 fs_1 aT.Count) ys_2 aBand aShare).1.Count)).Base.length : Int) + 3 * ((Trained.mk ((adR (Trained.mk aT.Label bs_1 fs_1 aT.Count) ys_2 aBand aShare).1.Label) alBase_7 alFeats_7 ((adR (Trained.mk aT.Label bs_1 fs_1 aT.Count) ys_2 aBand aShare).1.Count)).Feats.length : Int))) ∧ ((valOf (Sv ((adR (Trained.mk aT.Label bs_1 fs_1 aT.Count) ys_2 aBand aShare).1.Label)) = valOf (Sv ((adR (Trained.mk aT.Label bs_1 fs_1 aT.Count) ys_2 aBand aShare).1.Label))) ∧ ((false = true → true = true) ∧ 3 = 3 ∧ alBase_7.length = alBase_7.length ∧ ∀ i, i < alBase_7.length → (fFeat alBase_7) i = (fFeat alBase_7) i ∨ (AV.idsL ((fFeat alBase_7) i) = [] ∧ leL (fun _ => none) false ((fFeat alBase_7) i) ((fFeat alBase_7) i))) ∧ ((false = true → true = true) ∧ 3 = 3 ∧ alFeats_7.length = alFeats_7.length ∧ ∀ i, i < alFeats_7.length → (fFeat alFeats_7) i = (fFeat alFeats_7) i ∨ (AV.idsL ((fFeat alFeats_7) i) = [] ∧ leL (fun _ => none) false ((fFeat alFeats_7) i) ((fFeat alFeats_7) i))) ∧ (valOf (I ((adR (Trained.mk aT.Label bs_1 fs_1 aT.Count) ys_2 aBand aShare).1.Count)) = valOf (I ((adR (Trained.mk aT.Label bs_1 fs_1 aT.Count) ys_2 aBand aShare).1.Count))) ∧ ([] : List AV) = []) ∧ ((I 1 : AV) = I 1) ∧ True] (by kernel_rfl) hB ⟨⟨(heldTrained_ok (Trained.mk ((adR (Trained.mk aT.Label bs_1 fs_1 aT.Count) ys_2 aBand aShare).1.Label) alBase_7 alFeats_7 ((adR (Trained.mk aT.Label bs_1 fs_1 aT.Count) ys_2 aBand aShare).1.Count)) 1 (by (try simp only); omega) hm1 hm2), ⟨rfl, ⟨⟨(fun h => by cases h), rfl, rfl, fun i _ => .inl rfl⟩, ⟨⟨(fun h => by cases h), rfl, rfl, fun i _ => .inl rfl⟩, ⟨rfl, rfl⟩⟩⟩⟩, rfl, trivial⟩, trivial⟩ ?_
    refine ae_then ?_
    refine aw_seq ?_
    refine aw_seq ?_
    refine aw_reg [(1, .dec false)] [1, 2, 3, 4, 10, 11, 14, 17, 18, 98] [4, 10, 14, 7301, 7302] [slFeat false aSample, I aBand, I aShare, .ref 4 0, .ref 10 0, I c_3, .ref 14 0, I v_7, I (1 + 3 * ((Trained.mk ((adR (Trained.mk aT.Label bs_1 fs_1 aT.Count) ys_2 aBand aShare).1.Label) alBase_7 alFeats_7 ((adR (Trained.mk aT.Label bs_1 fs_1 aT.Count) ys_2 aBand aShare).1.Count)).Base.length : Int) + 3 * ((Trained.mk ((adR (Trained.mk aT.Label bs_1 fs_1 aT.Count) ys_2 aBand aShare).1.Label) alBase_7 alFeats_7 ((adR (Trained.mk aT.Label bs_1 fs_1 aT.Count) ys_2 aBand aShare).1.Count)).Feats.length : Int)), Bv false] [some (bxTrained aT), some (bxTrainedT v_3), some (.box [Sv ((adR (Trained.mk aT.Label bs_1 fs_1 aT.Count) ys_2 aBand aShare).1.Label), .arr 7301, .arr 7302, I ((adR (Trained.mk aT.Label bs_1 fs_1 aT.Count) ys_2 aBand aShare).1.Count)]), some (.arr 3 alBase_7.length (fFeat alBase_7)), some (.arr 3 alFeats_7.length (fFeat alFeats_7))] [¬ ((1 + 3 * ((Trained.mk ((adR (Trained.mk aT.Label bs_1 fs_1 aT.Count) ys_2 aBand aShare).1.Label) alBase_7 alFeats_7 ((adR (Trained.mk aT.Label bs_1 fs_1 aT.Count) ys_2 aBand aShare).1.Count)).Base.length : Int) + 3 * ((Trained.mk ((adR (Trained.mk aT.Label bs_1 fs_1 aT.Count) ys_2 aBand aShare).1.Label) alBase_7 alFeats_7 ((adR (Trained.mk aT.Label bs_1 fs_1 aT.Count) ys_2 aBand aShare).1.Count)).Feats.length : Int)) < 0)] (by kernel_rfl) hB ⟨(by (try simp only); omega), trivial⟩ ?_
    refine ae_then ?_
    refine aw_false rfl ?_
    refine aw_skip ?_
    refine ae_then ?_
    refine aw_seq ?_
    refine aw_seq ?_
    refine aw_reg [(2, .dec false)] [1, 2, 3, 4, 10, 11, 14, 17, 101] [4, 10, 14, 7301, 7302] [slFeat false aSample, I aBand, I aShare, .ref 4 0, .ref 10 0, I c_3, .ref 14 0, I v_7, Bv false] [some (bxTrained aT), some (bxTrainedT v_3), some (.box [Sv ((adR (Trained.mk aT.Label bs_1 fs_1 aT.Count) ys_2 aBand aShare).1.Label), .arr 7301, .arr 7302, I ((adR (Trained.mk aT.Label bs_1 fs_1 aT.Count) ys_2 aBand aShare).1.Count)]), some (.arr 3 alBase_7.length (fFeat alBase_7)), some (.arr 3 alFeats_7.length (fFeat alFeats_7))] [¬ ((1 + 3 * ((Trained.mk ((adR (Trained.mk aT.Label bs_1 fs_1 aT.Count) ys_2 aBand aShare).1.Label) alBase_7 alFeats_7 ((adR (Trained.mk aT.Label bs_1 fs_1 aT.Count) ys_2 aBand aShare).1.Count)).Base.length : Int) + 3 * ((Trained.mk ((adR (Trained.mk aT.Label bs_1 fs_1 aT.Count) ys_2 aBand aShare).1.Label) alBase_7 alFeats_7 ((adR (Trained.mk aT.Label bs_1 fs_1 aT.Count) ys_2 aBand aShare).1.Count)).Feats.length : Int)) ≠ v_7)] (by kernel_rfl) hB ⟨(fun hq => hq (by (try simp only); omega)), trivial⟩ ?_
    refine ae_then ?_
    refine aw_false rfl ?_
    refine aw_skip ?_
    refine ae_then ?_
    refine aw_seq ?_
    refine aw_reg [(1, .lend [] [(8303, .arr 3 bs_1.length (fFeat bs_1)), (8304, .arr 3 fs_1.length (fFeat fs_1))] [(true, agTrained aT)] false (.agg [Sv aT.Label, .arr 8303, .arr 8304, I aT.Count])), (3, .lend [] [(8301, .arr 3 ys_2.length (fFeat ys_2))] [(true, slFeat false aSample)] false (.arr 8301)), (6, .lendT [] [(8311, .arr 3 bs_4.length (fFeat bs_4)), (8312, .arr 3 fs_4.length (fFeat fs_4))] [(false, .agg [Sv aT.Label, slFeat false bs_1, slFeat false fs_1, I aT.Count]), (false, slFeat false ys_2), (true, I aBand), (true, I aShare)] false (.tup [.agg [Sv ((adR (Trained.mk aT.Label bs_1 fs_1 aT.Count) ys_2 aBand aShare).1.Label), .arr 8311, .arr 8312, I ((adR (Trained.mk aT.Label bs_1 fs_1 aT.Count) ys_2 aBand aShare).1.Count)], I ((adR (Trained.mk aT.Label bs_1 fs_1 aT.Count) ys_2 aBand aShare).2)])), (10, .new 19)] [10, 11, 14, 17, 19, 20] [10, 14, 19, 7301, 7302, 8311, 8312] [.ref 10 0, I c_3, .ref 14 0, I v_7, .ref 19 0, I ((adR (Trained.mk aT.Label bs_1 fs_1 aT.Count) ys_2 aBand aShare).2)] [some (bxTrainedT v_3), some (.box [Sv ((adR (Trained.mk aT.Label bs_1 fs_1 aT.Count) ys_2 aBand aShare).1.Label), .arr 7301, .arr 7302, I ((adR (Trained.mk aT.Label bs_1 fs_1 aT.Count) ys_2 aBand aShare).1.Count)]), some (.box [Sv ((adR (Trained.mk aT.Label bs_1 fs_1 aT.Count) ys_2 aBand aShare).1.Label), .arr 8311, .arr 8312, I ((adR (Trained.mk aT.Label bs_1 fs_1 aT.Count) ys_2 aBand aShare).1.Count)]), some (.arr 3 alBase_7.length (fFeat alBase_7)), some (.arr 3 alFeats_7.length (fFeat alFeats_7)), some (.arr 3 bs_4.length (fFeat bs_4)), some (.arr 3 fs_4.length (fFeat fs_4))] [CallOK Try.prog 8 [agTrained aT] (lookO []) false (.agg [Sv aT.Label, .arr 8303, .arr 8304, I aT.Count]) (lookO [(8303, .arr 3 bs_1.length (fFeat bs_1)), (8304, .arr 3 fs_1.length (fFeat fs_1))]) ∧ ((agTrained aT : AV) = agTrained aT) ∧ True, CallOK Try.prog 9 [slFeat false aSample] (lookO []) false (.arr 8301) (lookO [(8301, .arr 3 ys_2.length (fFeat ys_2))]) ∧ ((slFeat false aSample : AV) = slFeat false aSample) ∧ True, CallOK Try.prog 10 [.agg [Sv aT.Label, slFeat false bs_1, slFeat false fs_1, I aT.Count], slFeat false ys_2, I aBand, I aShare] (lookO []) false (.tup [.agg [Sv ((adR (Trained.mk aT.Label bs_1 fs_1 aT.Count) ys_2 aBand aShare).1.Label), .arr 8311, .arr 8312, I ((adR (Trained.mk aT.Label bs_1 fs_1 aT.Count) ys_2 aBand aShare).1.Count)], I ((adR (Trained.mk aT.Label bs_1 fs_1 aT.Count) ys_2 aBand aShare).2)]) (lookO [(8311, .arr 3 bs_4.length (fFeat bs_4)), (8312, .arr 3 fs_4.length (fFeat fs_4))]) ∧ allTag [(8311, .arr 3 bs_4.length (fFeat bs_4)), (8312, .arr 3 fs_4.length (fFeat fs_4))] ∧ tagged true (.tup [.agg [Sv ((adR (Trained.mk aT.Label bs_1 fs_1 aT.Count) ys_2 aBand aShare).1.Label), .arr 8311, .arr 8312, I ((adR (Trained.mk aT.Label bs_1 fs_1 aT.Count) ys_2 aBand aShare).1.Count)], I ((adR (Trained.mk aT.Label bs_1 fs_1 aT.Count) ys_2 aBand aShare).2)]) ∧ ((valOf (Sv aT.Label) = valOf (Sv aT.Label)) ∧ ((false = true → true = true) ∧ 3 = 3 ∧ bs_1.length = bs_1.length ∧ ∀ i, i < bs_1.length → (fFeat bs_1) i = (fFeat bs_1) i ∨ (AV.idsL ((fFeat bs_1) i) = [] ∧ leL (fun _ => none) false ((fFeat bs_1) i) ((fFeat bs_1) i))) ∧ ((false = true → true = true) ∧ 3 = 3 ∧ fs_1.length = fs_1.length ∧ ∀ i, i < fs_1.length → (fFeat fs_1) i = (fFeat fs_1) i ∨ (AV.idsL ((fFeat fs_1) i) = [] ∧ leL (fun _ => none) false ((fFeat fs_1) i) ((fFeat fs_1) i))) ∧ (valOf (I aT.Count) = valOf (I aT.Count)) ∧ ([] : List AV) = []) ∧ ((false = true → true = true) ∧ 3 = 3 ∧ ys_2.length = ys_2.length ∧ ∀ i, i < ys_2.length → (fFeat ys_2) i = (fFeat ys_2) i ∨ (AV.idsL ((fFeat ys_2) i) = [] ∧ leL (fun _ => none) false ((fFeat ys_2) i) ((fFeat ys_2) i))) ∧ ((I aBand : AV) = I aBand) ∧ ((I aShare : AV) = I aShare) ∧ True] (by kernel_rfl) hB ⟨⟨hc1, rfl, trivial⟩, ⟨hc2, rfl, trivial⟩, ⟨hc4, ⟨(fun _ _ => tagcFeat true _), (fun _ _ => tagcFeat true _), trivial⟩, (by simp [tagged, taggedL]), ⟨rfl, ⟨⟨(fun h => by cases h), rfl, rfl, fun i _ => .inl rfl⟩, ⟨⟨(fun h => by cases h), rfl, rfl, fun i _ => .inl rfl⟩, ⟨rfl, rfl⟩⟩⟩⟩, ⟨(fun h => by cases h), rfl, rfl, fun i _ => .inl rfl⟩, rfl, rfl, trivial⟩, trivial⟩ ?_
    refine ae_then ?_
    refine aw_seq ?_
    refine aw_seq ?_
    refine aw_reg [(2, .call [(false, .agg [Sv ((adR (Trained.mk aT.Label bs_1 fs_1 aT.Count) ys_2 aBand aShare).1.Label), slFeat false bs_4, slFeat false fs_4, I ((adR (Trained.mk aT.Label bs_1 fs_1 aT.Count) ys_2 aBand aShare).1.Count)]), (false, agTrained v_3)] true (Bv true)), (7, .dec false)] [14, 17, 120] [14, 7301, 7302] [.ref 14 0, I v_7, Bv false] [some (.box [Sv ((adR (Trained.mk aT.Label bs_1 fs_1 aT.Count) ys_2 aBand aShare).1.Label), .arr 7301, .arr 7302, I ((adR (Trained.mk aT.Label bs_1 fs_1 aT.Count) ys_2 aBand aShare).1.Count)]), some (.arr 3 alBase_7.length (fFeat alBase_7)), some (.arr 3 alFeats_7.length (fFeat alFeats_7))] [Con Try.prog 11 [.agg [Sv ((adR (Trained.mk aT.Label bs_1 fs_1 aT.Count) ys_2 aBand aShare).1.Label), slFeat false bs_4, slFeat false fs_4, I ((adR (Trained.mk aT.Label bs_1 fs_1 aT.Count) ys_2 aBand aShare).1.Count)], agTrained v_3] true (Bv true) ∧ ((valOf (Sv ((adR (Trained.mk aT.Label bs_1 fs_1 aT.Count) ys_2 aBand aShare).1.Label)) = valOf (Sv ((adR (Trained.mk aT.Label bs_1 fs_1 aT.Count) ys_2 aBand aShare).1.Label))) ∧ ((false = true → true = true) ∧ 3 = 3 ∧ bs_4.length = bs_4.length ∧ ∀ i, i < bs_4.length → (fFeat bs_4) i = (fFeat bs_4) i ∨ (AV.idsL ((fFeat bs_4) i) = [] ∧ leL (fun _ => none) false ((fFeat bs_4) i) ((fFeat bs_4) i))) ∧ ((false = true → true = true) ∧ 3 = 3 ∧ fs_4.length = fs_4.length ∧ ∀ i, i < fs_4.length → (fFeat fs_4) i = (fFeat fs_4) i ∨ (AV.idsL ((fFeat fs_4) i) = [] ∧ leL (fun _ => none) false ((fFeat fs_4) i) ((fFeat fs_4) i))) ∧ (valOf (I ((adR (Trained.mk aT.Label bs_1 fs_1 aT.Count) ys_2 aBand aShare).1.Count)) = valOf (I ((adR (Trained.mk aT.Label bs_1 fs_1 aT.Count) ys_2 aBand aShare).1.Count))) ∧ ([] : List AV) = []) ∧ ((valOf (Sv v_3.Label) = valOf (Sv v_3.Label)) ∧ ((false = true → true = true) ∧ 3 = 3 ∧ v_3.Base.length = v_3.Base.length ∧ ∀ i, i < v_3.Base.length → (fFeat v_3.Base) i = (fFeat v_3.Base) i ∨ (AV.idsL ((fFeat v_3.Base) i) = [] ∧ leL (fun _ => none) false ((fFeat v_3.Base) i) ((fFeat v_3.Base) i))) ∧ ((false = true → true = true) ∧ 3 = 3 ∧ v_3.Feats.length = v_3.Feats.length ∧ ∀ i, i < v_3.Feats.length → (fFeat v_3.Feats) i = (fFeat v_3.Feats) i ∨ (AV.idsL ((fFeat v_3.Feats) i) = [] ∧ leL (fun _ => none) false ((fFeat v_3.Feats) i) ((fFeat v_3.Feats) i))) ∧ (valOf (I v_3.Count) = valOf (I v_3.Count)) ∧ ([] : List AV) = []) ∧ True, ¬ (((adR (Trained.mk aT.Label bs_1 fs_1 aT.Count) ys_2 aBand aShare).2) ≠ c_3)] (by kernel_rfl) hB ⟨⟨(con_bool (by subst_vars; exact same_self _) (eqTrained_ok (Trained.mk ((adR (Trained.mk aT.Label bs_1 fs_1 aT.Count) ys_2 aBand aShare).1.Label) bs_4 fs_4 ((adR (Trained.mk aT.Label bs_1 fs_1 aT.Count) ys_2 aBand aShare).1.Count)) v_3)), ⟨rfl, ⟨⟨(fun h => by cases h), rfl, rfl, fun i _ => .inl rfl⟩, ⟨⟨(fun h => by cases h), rfl, rfl, fun i _ => .inl rfl⟩, ⟨rfl, rfl⟩⟩⟩⟩, ⟨rfl, ⟨⟨(fun h => by cases h), rfl, rfl, fun i _ => .inl rfl⟩, ⟨⟨(fun h => by cases h), rfl, rfl, fun i _ => .inl rfl⟩, ⟨rfl, rfl⟩⟩⟩⟩, trivial⟩, (fun hq => hq (by subst_vars; rfl)), trivial⟩ ?_
    refine ae_then ?_
    refine aw_false rfl ?_
    refine aw_skip ?_
    refine ae_then ?_
    refine aw_seq ?_
    refine aw_reg [] [14, 17, 18] [14, 7301, 7302] [.ref 14 0, I v_7, I 1] [some (.box [Sv ((adR (Trained.mk aT.Label bs_1 fs_1 aT.Count) ys_2 aBand aShare).1.Label), .arr 7301, .arr 7302, I ((adR (Trained.mk aT.Label bs_1 fs_1 aT.Count) ys_2 aBand aShare).1.Count)]), some (.arr 3 alBase_7.length (fFeat alBase_7)), some (.arr 3 alFeats_7.length (fFeat alFeats_7))] [] (by kernel_rfl) hB trivial ?_
    refine ae_then ?_
    refine aw_seq ?_
    refine aw_reg [(2, .call [(false, .agg [Sv ((adR (Trained.mk aT.Label bs_1 fs_1 aT.Count) ys_2 aBand aShare).1.Label), slFeat false alBase_7, slFeat false alFeats_7, I ((adR (Trained.mk aT.Label bs_1 fs_1 aT.Count) ys_2 aBand aShare).1.Count)]), (true, I 1)] true (I (1 + 3 * ((Trained.mk ((adR (Trained.mk aT.Label bs_1 fs_1 aT.Count) ys_2 aBand aShare).1.Label) alBase_7 alFeats_7 ((adR (Trained.mk aT.Label bs_1 fs_1 aT.Count) ys_2 aBand aShare).1.Count)).Base.length : Int) + 3 * ((Trained.mk ((adR (Trained.mk aT.Label bs_1 fs_1 aT.Count) ys_2 aBand aShare).1.Label) alBase_7 alFeats_7 ((adR (Trained.mk aT.Label bs_1 fs_1 aT.Count) ys_2 aBand aShare).1.Count)).Feats.length : Int))))] [17, 18] [] [I v_7, I (1 + 3 * ((Trained.mk ((adR (Trained.mk aT.Label bs_1 fs_1 aT.Count) ys_2 aBand aShare).1.Label) alBase_7 alFeats_7 ((adR (Trained.mk aT.Label bs_1 fs_1 aT.Count) ys_2 aBand aShare).1.Count)).Base.length : Int) + 3 * ((Trained.mk ((adR (Trained.mk aT.Label bs_1 fs_1 aT.Count) ys_2 aBand aShare).1.Label) alBase_7 alFeats_7 ((adR (Trained.mk aT.Label bs_1 fs_1 aT.Count) ys_2 aBand aShare).1.Count)).Feats.length : Int))] [] [Con Try.prog 15 [.agg [Sv ((adR (Trained.mk aT.Label bs_1 fs_1 aT.Count) ys_2 aBand aShare).1.Label), slFeat false alBase_7, slFeat false alFeats_7, I ((adR (Trained.mk aT.Label bs_1 fs_1 aT.Count) ys_2 aBand aShare).1.Count)], I 1] true (I (1 + 3 * ((Trained.mk ((adR (Trained.mk aT.Label bs_1 fs_1 aT.Count) ys_2 aBand aShare).1.Label) alBase_7 alFeats_7 ((adR (Trained.mk aT.Label bs_1 fs_1 aT.Count) ys_2 aBand aShare).1.Count)).Base.length : Int) + 3 * ((Trained.mk ((adR (Trained.mk aT.Label bs_1 fs_1 aT.Count) ys_2 aBand aShare).1.Label) alBase_7 alFeats_7 ((adR (Trained.mk aT.Label bs_1 fs_1 aT.Count) ys_2 aBand aShare).1.Count)).Feats.length : Int))) ∧ ((valOf (Sv ((adR (Trained.mk aT.Label bs_1 fs_1 aT.Count) ys_2 aBand aShare).1.Label)) = valOf (Sv ((adR (Trained.mk aT.Label bs_1 fs_1 aT.Count) ys_2 aBand aShare).1.Label))) ∧ ((false = true → true = true) ∧ 3 = 3 ∧ alBase_7.length = alBase_7.length ∧ ∀ i, i < alBase_7.length → (fFeat alBase_7) i = (fFeat alBase_7) i ∨ (AV.idsL ((fFeat alBase_7) i) = [] ∧ leL (fun _ => none) false ((fFeat alBase_7) i) ((fFeat alBase_7) i))) ∧ ((false = true → true = true) ∧ 3 = 3 ∧ alFeats_7.length = alFeats_7.length ∧ ∀ i, i < alFeats_7.length → (fFeat alFeats_7) i = (fFeat alFeats_7) i ∨ (AV.idsL ((fFeat alFeats_7) i) = [] ∧ leL (fun _ => none) false ((fFeat alFeats_7) i) ((fFeat alFeats_7) i))) ∧ (valOf (I ((adR (Trained.mk aT.Label bs_1 fs_1 aT.Count) ys_2 aBand aShare).1.Count)) = valOf (I ((adR (Trained.mk aT.Label bs_1 fs_1 aT.Count) ys_2 aBand aShare).1.Count))) ∧ ([] : List AV) = []) ∧ ((I 1 : AV) = I 1) ∧ True] (by kernel_rfl) hB ⟨⟨(heldTrained_ok (Trained.mk ((adR (Trained.mk aT.Label bs_1 fs_1 aT.Count) ys_2 aBand aShare).1.Label) alBase_7 alFeats_7 ((adR (Trained.mk aT.Label bs_1 fs_1 aT.Count) ys_2 aBand aShare).1.Count)) 1 (by (try simp only); omega) hm1 hm2), ⟨rfl, ⟨⟨(fun h => by cases h), rfl, rfl, fun i _ => .inl rfl⟩, ⟨⟨(fun h => by cases h), rfl, rfl, fun i _ => .inl rfl⟩, ⟨rfl, rfl⟩⟩⟩⟩, rfl, trivial⟩, trivial⟩ ?_
    refine ae_then ?_
    refine aw_seq ?_
    refine aw_seq ?_
    refine aw_reg [(1, .dec false)] [17, 18, 125] [] [I v_7, I (1 + 3 * ((Trained.mk ((adR (Trained.mk aT.Label bs_1 fs_1 aT.Count) ys_2 aBand aShare).1.Label) alBase_7 alFeats_7 ((adR (Trained.mk aT.Label bs_1 fs_1 aT.Count) ys_2 aBand aShare).1.Count)).Base.length : Int) + 3 * ((Trained.mk ((adR (Trained.mk aT.Label bs_1 fs_1 aT.Count) ys_2 aBand aShare).1.Label) alBase_7 alFeats_7 ((adR (Trained.mk aT.Label bs_1 fs_1 aT.Count) ys_2 aBand aShare).1.Count)).Feats.length : Int)), Bv false] [] [¬ ((1 + 3 * ((Trained.mk ((adR (Trained.mk aT.Label bs_1 fs_1 aT.Count) ys_2 aBand aShare).1.Label) alBase_7 alFeats_7 ((adR (Trained.mk aT.Label bs_1 fs_1 aT.Count) ys_2 aBand aShare).1.Count)).Base.length : Int) + 3 * ((Trained.mk ((adR (Trained.mk aT.Label bs_1 fs_1 aT.Count) ys_2 aBand aShare).1.Label) alBase_7 alFeats_7 ((adR (Trained.mk aT.Label bs_1 fs_1 aT.Count) ys_2 aBand aShare).1.Count)).Feats.length : Int)) < 0)] (by kernel_rfl) hB ⟨(by (try simp only); omega), trivial⟩ ?_
    refine ae_then ?_
    refine aw_false rfl ?_
    refine aw_skip ?_
    refine ae_then ?_
    refine aw_seq ?_
    refine aw_seq ?_
    refine aw_reg [(2, .dec false)] [128] [] [Bv false] [] [¬ ((1 + 3 * ((Trained.mk ((adR (Trained.mk aT.Label bs_1 fs_1 aT.Count) ys_2 aBand aShare).1.Label) alBase_7 alFeats_7 ((adR (Trained.mk aT.Label bs_1 fs_1 aT.Count) ys_2 aBand aShare).1.Count)).Base.length : Int) + 3 * ((Trained.mk ((adR (Trained.mk aT.Label bs_1 fs_1 aT.Count) ys_2 aBand aShare).1.Label) alBase_7 alFeats_7 ((adR (Trained.mk aT.Label bs_1 fs_1 aT.Count) ys_2 aBand aShare).1.Count)).Feats.length : Int)) ≠ v_7)] (by kernel_rfl) hB ⟨(fun hq => hq (by (try simp only); omega)), trivial⟩ ?_
    refine ae_then ?_
    refine aw_false rfl ?_
    refine aw_skip ?_
    refine ae_then ?_
    refine aw_seq ?_
    refine aw_reg [] [8] [] [Bv true] [] [] (by kernel_rfl) hB trivial ?_
    refine ae_then ?_
    refine aw_ret ?_
    refine ae_ret hB (Bv true) (by kernel_rfl) (.inl rfl) rfl (fun _ => trivial)


/-! ### the row -/

def okOFeat (x : Feat) : Prop := (inR .i64 x.X) ∧ (inR .i64 x.Y) ∧ (inR .i64 x.D)

theorem opens_t57 : OpensA Try.prog 57 (cFeat) okOFeat := by
  intro H enc w base spare held fuel cs y h
  obtain ⟨ys, n, _, _, hlen, hyl, hf⟩ := DataW.trod_struct Try.underlying57 h
  obtain ⟨x0, r0, o0⟩ := (opensA_int Try.underlying2) enc w base spare held _ _ _ ((hf 0 _ rfl).trans (List.getElem?_eq_getElem (by rw [hyl]; decide)))
  obtain ⟨x1, r1, o1⟩ := (opensA_int Try.underlying2) enc w base spare held _ _ _ ((hf 1 _ rfl).trans (List.getElem?_eq_getElem (by rw [hyl]; decide)))
  obtain ⟨x2, r2, o2⟩ := (opensA_int Try.underlying2) enc w base spare held _ _ _ ((hf 2 _ rfl).trans (List.getElem?_eq_getElem (by rw [hyl]; decide)))
  have hlen : cs.length = 3 := hlen.trans (by kernel_rfl)
  exact ⟨⟨x0, x1, x2⟩, RelTL.whole (n := 3) (RelTL.app (a := 2) (b := 1) (RelTL.app (a := 1) (b := 1) r0 (by kernel_rfl) r1 (by kernel_rfl) (by kernel_rfl) (by omega)) rfl r2 (by kernel_rfl) (by kernel_rfl) (by omega)) hlen rfl, o0, o1, o2⟩

theorem opens_t22 : OpensA Try.prog 22 (cLFeat false) (fun xs => ∀ y ∈ xs, okOFeat y) :=
  opensA_slice (c := cFeat) (sz := 3) Try.underlying22 (by kernel_rfl) (by decide) (fun x => ⟨rfl, by simp [oneA, cFeat, cI]⟩) (opens_t57)

def okOTrained (x : Trained) : Prop := (x.Label.size ≤ 9223372036854775807) ∧ (∀ y ∈ x.Base, okOFeat y) ∧ (∀ y ∈ x.Feats, okOFeat y) ∧ (inR .i64 x.Count)

theorem opens_t24 : OpensA Try.prog 24 (cTrained false) okOTrained := by
  intro H enc w base spare held fuel cs y h
  obtain ⟨ys, n, _, _, hlen, hyl, hf⟩ := DataW.trod_struct Try.underlying24 h
  obtain ⟨x0, r0, o0⟩ := (opensA_str Try.underlying9) enc w base spare held _ _ _ ((hf 0 _ rfl).trans (List.getElem?_eq_getElem (by rw [hyl]; decide)))
  obtain ⟨x1, r1, o1⟩ := (opens_t22) enc w base spare held _ _ _ ((hf 1 _ rfl).trans (List.getElem?_eq_getElem (by rw [hyl]; decide)))
  obtain ⟨x2, r2, o2⟩ := (opens_t22) enc w base spare held _ _ _ ((hf 2 _ rfl).trans (List.getElem?_eq_getElem (by rw [hyl]; decide)))
  obtain ⟨x3, r3, o3⟩ := (opensA_int Try.underlying2) enc w base spare held _ _ _ ((hf 3 _ rfl).trans (List.getElem?_eq_getElem (by rw [hyl]; decide)))
  have hlen : cs.length = 4 := hlen.trans (by kernel_rfl)
  exact ⟨⟨x0, x1, x2, x3⟩, RelTL.whole (n := 4) (RelTL.app (a := 3) (b := 1) (RelTL.app (a := 2) (b := 1) (RelTL.app (a := 1) (b := 1) r0 (by kernel_rfl) r1 (by kernel_rfl) (by kernel_rfl) (by omega)) rfl r2 (by kernel_rfl) (by kernel_rfl) (by omega)) rfl r3 (by kernel_rfl) (by kernel_rfl) (by omega)) hlen rfl, o0, o1, o2, o3⟩

namespace fnExactAdaptTrained
set_option maxRecDepth 100000 in
theorem lifted (os : Os) (started : os.Started) (H : Type) (enc : TypeId × Value → H) :
    ReturnsInHanded {} Try.checked os 3 .any (Rows.fnExactAdaptTrainedSpec.pre6 enc Try.prog Try.f3 Rows.fnExactAdaptTrainedRow.domain false) (Rows.fnExactAdaptTrainedSpec.post enc Try.prog Try.f3 false true false false) := by
  refine returnsInHanded_of_change_shaped (C := Try.checked) Try.own started (by kernel_rfl) Try.func3
    (ChangeSpec.witness6 (enc := enc) (C := Try.checked) false ⟨#[], #[.agg #[.string ⟨#[]⟩, .slice none 0 0, .slice none 0 0, .int .i64 0], .slice none 0 0, .int .i64 0, .int .i64 0], []⟩ 8 (by kernel_rfl) (by kernel_rfl) (by kernel_rfl) (by kernel_rfl)) ?_
  intro W base args ds gs before hval0 hW hcnd hsz hshp _
  have hW' := hW
  obtain ⟨p, q, hA0, hV, rfl, hfz, hnd⟩ := hW
  have hval : ∀ (j : Nat) t v, Try.f3.params[j]? = some t → args[j]? = some v → Value.okWide Try.prog W .any base t v := hval0
  have hA : DataW.TrodAll enc Try.prog W 0 (fun _ => true) true Try.f3.params.toList args.toList ds p := hA0
  rw [Try.params3] at hA hval
  obtain ⟨v0, vs0, d0, ds0, p0, q0, hargs, rfl, rfl, h0, r0⟩ := trodAll_cons hA
  obtain ⟨v1, vs1, d1, ds1, p1, q1, rfl, rfl, rfl, h1, r1⟩ := trodAll_cons r0
  obtain ⟨v2, vs2, d2, ds2, p2, q2, rfl, rfl, rfl, h2, r2⟩ := trodAll_cons r1
  obtain ⟨v3, vs3, d3, ds3, p3, q3, rfl, rfl, rfl, h3, r3⟩ := trodAll_cons r2
  obtain ⟨rfl, rfl, rfl⟩ := trodAll_nil r3
  obtain rfl : args = #[v0, v1, v2, v3] := args_eq hargs
  obtain ⟨rfl, rfl⟩ := trodVars_none hV
  obtain ⟨fuel0, hf0⟩ := h0
  obtain ⟨cs0, rfl⟩ : ∃ cs, v0 = .agg cs := by
    obtain ⟨cs, h, _⟩ := okWide_struct Try.underlying24 (hval 0 24 v0 rfl rfl)
    exact ⟨cs, h⟩
  obtain ⟨x0, rx0, ok0⟩ := (opens_t24) enc W 0 _ _ _ _ _ hf0
  obtain ⟨fuel1, hf1⟩ := h1
  obtain ⟨A1, l1, c1, rfl⟩ := okWide_slice Try.underlying22 (hval 1 22 v1 rfl rfl)
  obtain ⟨x1, rx1, ok1⟩ := (opens_t22) enc W 0 _ _ _ _ _ hf1
  obtain ⟨fuel2, hf2⟩ := h2
  obtain ⟨s2, rfl⟩ := okWide_int Try.underlying2 (hval 2 2 v2 rfl rfl)
  obtain ⟨x2, rx2, ok2⟩ := (opensA_int Try.underlying2) enc W 0 _ _ _ _ _ hf2
  obtain ⟨fuel3, hf3⟩ := h3
  obtain ⟨s3, rfl⟩ := okWide_int Try.underlying2 (hval 3 2 v3 rfl rfl)
  obtain ⟨x3, rx3, ok3⟩ := (opensA_int Try.underlying2) enc W 0 _ _ _ _ _ hf3
  refine (walk_of0 (fnExactAdaptTrained_con x0 x1 x2 x3 ok0.1 ok2 ok3) (fun w _ => WX_free w) (RelTL.cons (relTL_agg rx0) (RelTL.cons (relTL_one rx1) (RelTL.cons (relTL_one rx2) (RelTL.cons (relTL_one rx3) RelTL.nil))))).mono fun e W1 ⟨he, hb⟩ => ?_
  subst he
  exact ⟨_, rfl, law_post Try.laidOut rfl Try.underlying4 (of_decide_eq_true (by kernel_rfl)) rfl hW' hb rfl⟩

theorem over : Rows.fnExactAdaptTrainedRow.holds Try.pinned (OpenSpec.ofChange Rows.fnExactAdaptTrainedSpec) :=
  OpenClaim.holds_of_wide 3 Try.f3 rfl rfl rfl rfl rfl rfl rfl ⟨rfl, rfl, rfl, rfl, rfl⟩ rfl rfl rfl rfl rfl (by kernel_rfl) Try.func3 (by kernel_rfl)
    (of_decide_eq_true (by kernel_rfl)) (by unfold Func.isWrapper; first | (rw [if_pos (by decide +kernel)]; kernel_rfl) | (rw [if_neg (by decide +kernel)]; exact ⟨rfl, rfl⟩))
    (fun os started H enc _ => lifted os started H enc)

theorem proved : Rows.FnExactAdaptTrainedSaid :=
  over
#print axioms proved
end fnExactAdaptTrained
end Go.Proofs.Ytcedmgpiaekfaaa.Ax
