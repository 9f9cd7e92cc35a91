/- Contracts that the statement FnLearn reaches, part 4. No conditions. -/
import Derived.Test.YtjiflhglbephbaaGreatAxLLearn3
import Derived.Test.YtjiflhglbephbaaGreatAxR
import Derived.Test.YtjiflhglbephbaaGreatAxS
import Derived.Test.YtjiflhglbephbaaGreatSortShelf
namespace Go.Proofs.YtjiflhglbephbaaGreat.Ax
open Go.RowKit Go.ChangeShapes Go.WideShapes
set_option linter.unusedVariables false
set_option linter.unusedSimpArgs false


-- impl.learner
theorem learner_ok (w : Writer) (label : ByteArray) (sample : List Feat) (hw : (0 ≤ w.Band ∧ w.Band ≤ 72) ∧ w.Trained.length ≤ 40 ∧ ∀ j, j < w.Trained.length → okTrained' (at_ w.Trained j) = true) (oks : okFeats sample 72 = true) : ∃ (v : Int), (v = pkI w label sample) ∧ Con Tryz.prog 34 [agWriter w, Sv label, slFeat false sample] true (I v) := by
  have hh : ∃ r : Int, ((r = pkI w label sample) ∧ (True)) ∧ CallOK Tryz.prog 34 [agWriter w, Sv label, slFeat false sample] (lookO []) true (I r) (lookO []) := by
    refine fn_okX (Φ := fun r : Int => (r = pkI w label sample) ∧ (True)) [] (fun r => []) (fn := Tryz.f34) (nt := 57) Tryz.func34 rfl rfl (args := [agWriter w, Sv label, slFeat false sample]) rfl (allcons (.inl ⟨rfl, by simp [tagged, taggedL, tagTrained]⟩) (allcons (.inl ⟨rfl, trivial⟩) (allcons (.inl ⟨rfl, tagFeat false _⟩) allnil))) (res := fun r => I r) ?_
    refine xR [(0, .new 3)] [1, 2, 3] [3] [Sv label, slFeat false sample, .ref 3 0] [some (bxWriter w)] [] trivial ?_
    refine xR [] [1, 2, 3, 7, 8] [3] [Sv label, slFeat false sample, .ref 3 0, I (-1), I 0] [some (bxWriter w)] [] trivial ?_
    refine x_seq ?_
    refine xR [] [1, 2, 3, 7, 8, 13, 14, 15] [3] [Sv label, slFeat false sample, .ref 3 0, I (-1), I 0, slTrained false w.Trained, I (w.Trained.length : Int), I 0] [some (bxWriter w)] [] trivial ?_
    refine x_block ?_
    refine x_loop (X := Int × Int × Int) (fun x => mkS [(1, Sv label), (2, slFeat false sample), (3, .ref 3 0), (7, I x.1), (8, I x.2.1), (13, slTrained false w.Trained), (14, I (w.Trained.length : Int)), (15, I x.2.2)] [(3, bxWriter w)]) (fun x => (0 ≤ x.2.2 ∧ x.2.2 ≤ (w.Trained.length : Int)) ∧ (pkS w label sample x.2.2.toNat = (x.1, x.2.1)) ∧ True) (fun x => ((w.Trained.length : Int) - x.2.2).toNat) ((-1), 0, 0) rfl (show (0 ≤ (0 : Int) ∧ (0 : Int) ≤ (w.Trained.length : Int)) ∧ (pkS w label sample (0 : Int).toNat = ((-1), (0 : Int))) ∧ True from ⟨(by omega), (by rfl), trivial⟩) (fun x hI => ?_)
    obtain ⟨best, least, t15⟩ := x
    obtain ⟨hi0, hbs, _⟩ : (0 ≤ t15 ∧ t15 ≤ (w.Trained.length : Int)) ∧ (pkS w label sample t15.toNat = (best, least)) ∧ True := hI
    show XW _ _ _ _ (mkS [(1, Sv label), (2, slFeat false sample), (3, .ref 3 0), (7, I best), (8, I least), (13, slTrained false w.Trained), (14, I (w.Trained.length : Int)), (15, I t15)] [(3, bxWriter w)]) _ _
    refine x_seq ?_
    by_cases h1 : t15 < (w.Trained.length : Int)
    ·have hi : t15.toNat < w.Trained.length := by omega
     have hix : ((t15.toNat : Nat) : Int) = t15 := by omega
     have htr := hw.2.2 _ hi
     have htn := okFeats_n (okTr_iff.1 htr).2.2.1
     have hon := okFeats_n oks
     have hnx : (t15 + 1).toNat = t15.toNat + 1 := by omega
     refine x_r [(0, .dec true)] [1, 2, 3, 7, 8, 13, 14, 15, 16] [3] [Sv label, slFeat false sample, .ref 3 0, I best, I least, slTrained false w.Trained, I (w.Trained.length : Int), I t15, Bv true] [some (bxWriter w)] [t15 < (w.Trained.length : Int)] ⟨h1, trivial⟩ ?_
     refine xe_then ?_
     refine x_seq ?_
     refine x_true rfl ?_
     refine x_skip ?_
     refine xe_then ?_
     refine x_seq ?_
     refine x_block ?_
     refine xR [(3, .new 10)] [1, 2, 3, 7, 8, 9, 10, 13, 14, 15] [3, 10] [Sv label, slFeat false sample, .ref 3 0, I best, I least, I t15, .ref 10 0, slTrained false w.Trained, I (w.Trained.length : Int), I t15] [some (bxWriter w), some (bxTrained (at_ w.Trained t15.toNat))] [(0 : Int) ≤ t15 ∧ t15 < (w.Trained.length : Int)] ⟨⟨(by omega), (by omega)⟩, trivial⟩ ?_
     refine x_seq ?_
     refine x_seq ?_
     by_cases h2 : ((at_ w.Trained t15.toNat).Label) = label
     ·by_cases h3 : 100 ≤ ((at_ w.Trained t15.toNat).Count)
      ·have hpk := pk_no (label := label) (s := sample) (lrn_n2 h3)
       refine x_r [(3, .dec false), (7, .dec true)] [1, 2, 3, 7, 8, 9, 10, 13, 14, 15, 39] [3, 10] [Sv label, slFeat false sample, .ref 3 0, I best, I least, I t15, .ref 10 0, slTrained false w.Trained, I (w.Trained.length : Int), I t15, Bv true] [some (bxWriter w), some (bxTrained (at_ w.Trained t15.toNat))] [¬ (((at_ w.Trained t15.toNat).Label) ≠ label), 100 ≤ ((at_ w.Trained t15.toNat).Count)] ⟨(fun hq => hq h2), h3, trivial⟩ ?_
       refine xe_then ?_
       refine x_true rfl ?_
       refine x_exit ?_
       refine xe_exit_then ?_
       refine xe_exit_same ?_
       refine xe_then ?_
       refine x_r [] [1, 2, 3, 7, 8, 13, 14, 15] [3] [Sv label, slFeat false sample, .ref 3 0, I best, I least, slTrained false w.Trained, I (w.Trained.length : Int), I (t15 + 1)] [some (bxWriter w)] [inR .i64 (t15 + 1)] ⟨(inR_i64 (by omega) (by omega)), trivial⟩ ?_
       exact xe_again (best, least, (t15 + 1)) rfl (show (0 ≤ (t15 + 1) ∧ (t15 + 1) ≤ (w.Trained.length : Int)) ∧ (pkS w label sample (t15 + 1).toNat = (best, least)) ∧ True from ⟨(by omega), (by rw [hnx]; first | (rw [hpk]; exact hbs) | (rw [hpk, hix]) | exact hpk), trivial⟩) (by first | (show (((w.Trained.length : Int) - (t15 + 1)).toNat : Nat) < ((w.Trained.length : Int) - t15).toNat; omega) | (dsimp only; omega))
      rcases Bool.eq_false_or_eq_true (inB w.Band 0 72 && decide (((((((at_ w.Trained t15.toNat).Feats).length) : Int) - (sample.length : Int)).natAbs : Int) ≤ w.Band)) with h4 | h4
      ·have hlb : lrnB w label sample t15.toNat = true := lrn_mk (by assumption) (by omega) h4
       have hcvs := lrn_cv oks htr hlb
       refine x_r [(3, .dec false), (7, .dec false), (17, .call [(true, .any), (true, .any), (true, .any)] true (Bv true))] [1, 2, 3, 7, 8, 9, 10, 13, 14, 15, 39] [3, 10] [Sv label, slFeat false sample, .ref 3 0, I best, I least, I t15, .ref 10 0, slTrained false w.Trained, I (w.Trained.length : Int), I t15, Bv false] [some (bxWriter w), some (bxTrained (at_ w.Trained t15.toNat))] [¬ (((at_ w.Trained t15.toNat).Label) ≠ label), ¬ (100 ≤ ((at_ w.Trained t15.toNat).Count)), Con Tryz.prog 69 [I w.Band, I ((((at_ w.Trained t15.toNat).Feats).length) : Int), I (sample.length : Int)] true (Bv true) ∧ True] ⟨(fun hq => hq h2), h3, ⟨(con_bool h4 (isBand_ok w.Band ((((at_ w.Trained t15.toNat).Feats).length) : Int) (sample.length : Int) (by omega) (by omega))), trivial⟩, trivial⟩ ?_
       refine xe_then ?_
       refine x_false rfl ?_
       refine x_skip ?_
       refine xe_then ?_
       refine x_seq ?_
       obtain ⟨v_1, hx1_0, hc1⟩ := elastic_ok sample ((at_ w.Trained t15.toNat).Feats) w.Band (okAB_of oks (okTr_iff.1 htr).2.2.1) (by omega) (by omega)
       have hcvx : v_1 = cv farS sample (at_ w.Trained t15.toNat).Feats w.Band (sample.length - 1) ((at_ w.Trained t15.toNat).Feats.length - 1) := hx1_0.trans hcvs
       refine x_r [(5, .call [(true, .any), (true, .any), (true, .any)] true (I v_1))] [1, 2, 3, 7, 8, 9, 11, 13, 14, 15] [3] [Sv label, slFeat false sample, .ref 3 0, I best, I least, I t15, I v_1, slTrained false w.Trained, I (w.Trained.length : Int), I t15] [some (bxWriter w)] [Con Tryz.prog 70 [slFeat false sample, slFeat false ((at_ w.Trained t15.toNat).Feats), I w.Band] true (I v_1) ∧ True] ⟨⟨hc1, trivial⟩, trivial⟩ ?_
       refine xe_then ?_
       refine x_seq ?_
       by_cases h5 : best < 0
       ·have hpk := pk_yes (c := v_1) hlb hcvx hbs (.inl h5)
        refine x_r [(1, .dec true)] [1, 2, 3, 7, 8, 9, 11, 13, 14, 15, 52] [3] [Sv label, slFeat false sample, .ref 3 0, I best, I least, I t15, I v_1, slTrained false w.Trained, I (w.Trained.length : Int), I t15, Bv true] [some (bxWriter w)] [best < 0] ⟨h5, trivial⟩ ?_
        refine xe_then ?_
        refine x_true rfl ?_
        refine x_r [] [1, 2, 3, 7, 8, 13, 14, 15] [3] [Sv label, slFeat false sample, .ref 3 0, I t15, I v_1, slTrained false w.Trained, I (w.Trained.length : Int), I t15] [some (bxWriter w)] [] trivial ?_
        refine xe_block 1 ?_
        refine xe_then ?_
        refine x_r [] [1, 2, 3, 7, 8, 13, 14, 15] [3] [Sv label, slFeat false sample, .ref 3 0, I t15, I v_1, slTrained false w.Trained, I (w.Trained.length : Int), I (t15 + 1)] [some (bxWriter w)] [inR .i64 (t15 + 1)] ⟨(inR_i64 (by omega) (by omega)), trivial⟩ ?_
        exact xe_again (t15, v_1, (t15 + 1)) rfl (show (0 ≤ (t15 + 1) ∧ (t15 + 1) ≤ (w.Trained.length : Int)) ∧ (pkS w label sample (t15 + 1).toNat = (t15, v_1)) ∧ True from ⟨(by omega), (by rw [hnx]; first | (rw [hpk]; exact hbs) | (rw [hpk, hix]) | exact hpk), trivial⟩) (by first | (show (((w.Trained.length : Int) - (t15 + 1)).toNat : Nat) < ((w.Trained.length : Int) - t15).toNat; omega) | (dsimp only; omega))
       by_cases h6 : v_1 < least
       ·have hpk := pk_yes (c := v_1) hlb hcvx hbs (.inr h6)
        refine x_r [(1, .dec false), (5, .dec true)] [1, 2, 3, 7, 8, 9, 11, 13, 14, 15, 52] [3] [Sv label, slFeat false sample, .ref 3 0, I best, I least, I t15, I v_1, slTrained false w.Trained, I (w.Trained.length : Int), I t15, Bv true] [some (bxWriter w)] [¬ (best < 0), v_1 < least] ⟨h5, h6, trivial⟩ ?_
        refine xe_then ?_
        refine x_true rfl ?_
        refine x_r [] [1, 2, 3, 7, 8, 13, 14, 15] [3] [Sv label, slFeat false sample, .ref 3 0, I t15, I v_1, slTrained false w.Trained, I (w.Trained.length : Int), I t15] [some (bxWriter w)] [] trivial ?_
        refine xe_block 1 ?_
        refine xe_then ?_
        refine x_r [] [1, 2, 3, 7, 8, 13, 14, 15] [3] [Sv label, slFeat false sample, .ref 3 0, I t15, I v_1, slTrained false w.Trained, I (w.Trained.length : Int), I (t15 + 1)] [some (bxWriter w)] [inR .i64 (t15 + 1)] ⟨(inR_i64 (by omega) (by omega)), trivial⟩ ?_
        exact xe_again (t15, v_1, (t15 + 1)) rfl (show (0 ≤ (t15 + 1) ∧ (t15 + 1) ≤ (w.Trained.length : Int)) ∧ (pkS w label sample (t15 + 1).toNat = (t15, v_1)) ∧ True from ⟨(by omega), (by rw [hnx]; first | (rw [hpk]; exact hbs) | (rw [hpk, hix]) | exact hpk), trivial⟩) (by first | (show (((w.Trained.length : Int) - (t15 + 1)).toNat : Nat) < ((w.Trained.length : Int) - t15).toNat; omega) | (dsimp only; omega))
       have hpk := pk_same (c := v_1) hcvx hbs (by assumption) h6
       refine x_r [(1, .dec false), (5, .dec false)] [1, 2, 3, 7, 8, 9, 11, 13, 14, 15, 52] [3] [Sv label, slFeat false sample, .ref 3 0, I best, I least, I t15, I v_1, slTrained false w.Trained, I (w.Trained.length : Int), I t15, Bv false] [some (bxWriter w)] [¬ (best < 0), ¬ (v_1 < least)] ⟨h5, h6, trivial⟩ ?_
       refine xe_then ?_
       refine x_false rfl ?_
       refine x_skip ?_
       refine xe_block 1 ?_
       refine xe_then ?_
       refine x_r [] [1, 2, 3, 7, 8, 13, 14, 15] [3] [Sv label, slFeat false sample, .ref 3 0, I best, I least, slTrained false w.Trained, I (w.Trained.length : Int), I (t15 + 1)] [some (bxWriter w)] [inR .i64 (t15 + 1)] ⟨(inR_i64 (by omega) (by omega)), trivial⟩ ?_
       exact xe_again (best, least, (t15 + 1)) rfl (show (0 ≤ (t15 + 1) ∧ (t15 + 1) ≤ (w.Trained.length : Int)) ∧ (pkS w label sample (t15 + 1).toNat = (best, least)) ∧ True from ⟨(by omega), (by rw [hnx]; first | (rw [hpk]; exact hbs) | (rw [hpk, hix]) | exact hpk), trivial⟩) (by first | (show (((w.Trained.length : Int) - (t15 + 1)).toNat : Nat) < ((w.Trained.length : Int) - t15).toNat; omega) | (dsimp only; omega))
      have hpk := pk_no (label := label) (lrn_n3 h4)
      refine x_r [(3, .dec false), (7, .dec false), (17, .call [(true, .any), (true, .any), (true, .any)] true (Bv false))] [1, 2, 3, 7, 8, 9, 10, 13, 14, 15, 39] [3, 10] [Sv label, slFeat false sample, .ref 3 0, I best, I least, I t15, .ref 10 0, slTrained false w.Trained, I (w.Trained.length : Int), I t15, Bv true] [some (bxWriter w), some (bxTrained (at_ w.Trained t15.toNat))] [¬ (((at_ w.Trained t15.toNat).Label) ≠ label), ¬ (100 ≤ ((at_ w.Trained t15.toNat).Count)), Con Tryz.prog 69 [I w.Band, I ((((at_ w.Trained t15.toNat).Feats).length) : Int), I (sample.length : Int)] true (Bv false) ∧ True] ⟨(fun hq => hq h2), h3, ⟨(con_bool h4 (isBand_ok w.Band ((((at_ w.Trained t15.toNat).Feats).length) : Int) (sample.length : Int) (by omega) (by omega))), trivial⟩, trivial⟩ ?_
      refine xe_then ?_
      refine x_true rfl ?_
      refine x_exit ?_
      refine xe_exit_then ?_
      refine xe_exit_same ?_
      refine xe_then ?_
      refine x_r [] [1, 2, 3, 7, 8, 13, 14, 15] [3] [Sv label, slFeat false sample, .ref 3 0, I best, I least, slTrained false w.Trained, I (w.Trained.length : Int), I (t15 + 1)] [some (bxWriter w)] [inR .i64 (t15 + 1)] ⟨(inR_i64 (by omega) (by omega)), trivial⟩ ?_
      exact xe_again (best, least, (t15 + 1)) rfl (show (0 ≤ (t15 + 1) ∧ (t15 + 1) ≤ (w.Trained.length : Int)) ∧ (pkS w label sample (t15 + 1).toNat = (best, least)) ∧ True from ⟨(by omega), (by rw [hnx]; first | (rw [hpk]; exact hbs) | (rw [hpk, hix]) | exact hpk), trivial⟩) (by first | (show (((w.Trained.length : Int) - (t15 + 1)).toNat : Nat) < ((w.Trained.length : Int) - t15).toNat; omega) | (dsimp only; omega))
     have hpk := pk_no (lrn_n1 (s := sample) h2)
     refine x_r [(3, .dec true)] [1, 2, 3, 7, 8, 9, 10, 13, 14, 15, 39] [3, 10] [Sv label, slFeat false sample, .ref 3 0, I best, I least, I t15, .ref 10 0, slTrained false w.Trained, I (w.Trained.length : Int), I t15, Bv true] [some (bxWriter w), some (bxTrained (at_ w.Trained t15.toNat))] [((at_ w.Trained t15.toNat).Label) ≠ label] ⟨h2, trivial⟩ ?_
     refine xe_then ?_
     refine x_true rfl ?_
     refine x_exit ?_
     refine xe_exit_then ?_
     refine xe_exit_same ?_
     refine xe_then ?_
     refine x_r [] [1, 2, 3, 7, 8, 13, 14, 15] [3] [Sv label, slFeat false sample, .ref 3 0, I best, I least, slTrained false w.Trained, I (w.Trained.length : Int), I (t15 + 1)] [some (bxWriter w)] [inR .i64 (t15 + 1)] ⟨(inR_i64 (by omega) (by omega)), trivial⟩ ?_
     exact xe_again (best, least, (t15 + 1)) rfl (show (0 ≤ (t15 + 1) ∧ (t15 + 1) ≤ (w.Trained.length : Int)) ∧ (pkS w label sample (t15 + 1).toNat = (best, least)) ∧ True from ⟨(by omega), (by rw [hnx]; first | (rw [hpk]; exact hbs) | (rw [hpk, hix]) | exact hpk), trivial⟩) (by first | (show (((w.Trained.length : Int) - (t15 + 1)).toNat : Nat) < ((w.Trained.length : Int) - t15).toNat; omega) | (dsimp only; omega))
    have hie : t15.toNat = w.Trained.length := by omega
    refine x_r [(0, .dec false)] [1, 2, 3, 7, 8, 13, 14, 15, 16] [3] [Sv label, slFeat false sample, .ref 3 0, I best, I least, slTrained false w.Trained, I (w.Trained.length : Int), I t15, Bv false] [some (bxWriter w)] [¬ (t15 < (w.Trained.length : Int))] ⟨h1, trivial⟩ ?_
    refine xe_then ?_
    refine x_seq ?_
    refine x_false rfl ?_
    refine x_exit ?_
    refine xe_exit_then ?_
    refine xe_loop_exit ?_
    refine xe_exit_same ?_
    refine xe_then ?_
    refine xR [] [6] [] [I best] [] [] trivial ?_
    refine x_ret ?_
    refine xe_end best (show (best = pkI w label sample) ∧ (True) from ⟨(by (unfold pkI; rw [← hie, hbs])), trivial⟩) (trivial) (I best) (by kernel_rfl) (.inl rfl) (fun _ => rfl) (fun _ => trivial)
  obtain ⟨v, ⟨hh0, _⟩, hc⟩ := hh
  exact ⟨v, hh0, hc⟩


/-- Whether two lists may be matched: 0, or what is wrong. -/
def mtc (a b : List Feat) (band : Int) : Int := if okFeats a 72 = true ∧ okFeats b 72 = true then (if inB band 0 72 = true ∧ (((a.length : Int) - (b.length : Int)).natAbs : Int) ≤ band then 0 else 2) else 1
theorem mtc_ok {a b : List Feat} {band : Int} (ha : okFeats a 72 = true) (hb : okFeats b 72 = true) (h1 : 0 ≤ band ∧ band ≤ 72) (h2 : (((a.length : Int) - (b.length : Int)).natAbs : Int) ≤ band) : mtc a b band = 0 := by
  unfold mtc
  rw [if_pos ⟨ha, hb⟩, if_pos ⟨inB_iff.2 h1, h2⟩]

-- impl.matchable
theorem matchable_ok (a : List Feat) (b : List Feat) (band : Int) (hla : a.length ≤ 4611686018427387904) (hlb : b.length ≤ 4611686018427387904) : Con Tryz.prog 103 [slFeat false a, slFeat false b, I band] true (I (mtc a b band)) := by
  refine fn_ok (fn := Tryz.f103) (nt := 24) Tryz.func103 rfl rfl rfl rfl (by simp [taggedL, tagged, tagFeat]) fun B hB => ?_
  refine aw_lens (x := slFeat false a) 0 rfl (fun len_a => ?_)
  simp [LenOK, LenL, cFeat, fFeat, slFeat] at len_a
  refine aw_lens (x := slFeat false b) 1 rfl (fun len_b => ?_)
  simp [LenOK, LenL, cFeat, fFeat, slFeat] at len_b
  refine aR [] [0, 1, 2] [] [slFeat false a, slFeat false b, I band] [] [] hB trivial ?_
  refine aw_seq ?_
  refine aw_block ?_
  refine aw_seq ?_
  rcases Bool.eq_false_or_eq_true (okFeats a 72) with h1 | h1
  ·rcases Bool.eq_false_or_eq_true (okFeats b 72) with h2 | h2
   ·refine aw_r [(1, .call [(true, .any)] true (Bv true)), (5, .call [(true, .any)] true (Bv true))] [0, 1, 2, 7] [] [slFeat false a, slFeat false b, I band, Bv false] [] [Con Tryz.prog 31 [slFeat false a] true (Bv true) ∧ True, Con Tryz.prog 31 [slFeat false b] true (Bv true) ∧ True] hB ⟨⟨(con_bool h1 (ValidSeq_ok a)), trivial⟩, ⟨(con_bool h2 (ValidSeq_ok b)), trivial⟩, trivial⟩ ?_
    refine ae_then ?_
    refine aw_false rfl ?_
    refine aw_seq ?_
    rcases Bool.eq_false_or_eq_true (inB band 0 72 && decide ((((a.length : Int) - (b.length : Int)).natAbs : Int) ≤ band)) with h3 | h3
    ·refine aw_r [(5, .call [(true, .any), (true, .any), (true, .any)] true (Bv true))] [16] [] [Bv false] [] [Con Tryz.prog 69 [I band, I (a.length : Int), I (b.length : Int)] true (Bv true) ∧ True] hB ⟨⟨(con_bool h3 (isBand_ok band (a.length : Int) (b.length : Int) (by omega) (by omega))), trivial⟩, trivial⟩ ?_
     refine ae_then ?_
     refine aw_false rfl ?_
     refine aw_skip ?_
     refine ae_block 0 ?_
     refine ae_then ?_
     refine aR [] [6] [] [I 0] [] [] hB trivial ?_
     refine aw_ret ?_
     refine ae_ret hB (I 0) (by kernel_rfl) (.inl (by refine congrArg I ?_; unfold mtc; first | (simp [*]; done) | (simp_all; done) | (simp_all; omega))) rfl (fun _ => trivial)
    refine aw_r [(5, .call [(true, .any), (true, .any), (true, .any)] true (Bv false))] [16] [] [Bv true] [] [Con Tryz.prog 69 [I band, I (a.length : Int), I (b.length : Int)] true (Bv false) ∧ True] hB ⟨⟨(con_bool h3 (isBand_ok band (a.length : Int) (b.length : Int) (by omega) (by omega))), trivial⟩, trivial⟩ ?_
    refine ae_then ?_
    refine aw_true rfl ?_
    refine aR [] [6] [] [I 2] [] [] hB trivial ?_
    refine aw_ret ?_
    refine ae_ret_block (ae_ret_then ?_)
    refine ae_ret hB (I 2) (by kernel_rfl) (.inl (by refine congrArg I ?_; unfold mtc; first | (simp [*]; done) | (simp_all; done) | (simp_all; omega))) rfl (fun _ => trivial)
   refine aw_r [(1, .call [(true, .any)] true (Bv true)), (5, .call [(true, .any)] true (Bv false))] [0, 1, 2, 7] [] [slFeat false a, slFeat false b, I band, Bv true] [] [Con Tryz.prog 31 [slFeat false a] true (Bv true) ∧ True, Con Tryz.prog 31 [slFeat false b] true (Bv false) ∧ True] hB ⟨⟨(con_bool h1 (ValidSeq_ok a)), trivial⟩, ⟨(con_bool h2 (ValidSeq_ok b)), trivial⟩, trivial⟩ ?_
   refine ae_then ?_
   refine aw_true rfl ?_
   refine aR [] [6] [] [I 1] [] [] hB trivial ?_
   refine aw_ret ?_
   refine ae_ret_block (ae_ret_then ?_)
   refine ae_ret hB (I 1) (by kernel_rfl) (.inl (by refine congrArg I ?_; unfold mtc; first | (simp [*]; done) | (simp_all; done) | (simp_all; omega))) rfl (fun _ => trivial)
  refine aw_r [(1, .call [(true, .any)] true (Bv false))] [0, 1, 2, 7] [] [slFeat false a, slFeat false b, I band, Bv true] [] [Con Tryz.prog 31 [slFeat false a] true (Bv false) ∧ True] hB ⟨⟨(con_bool h1 (ValidSeq_ok a)), trivial⟩, trivial⟩ ?_
  refine ae_then ?_
  refine aw_true rfl ?_
  refine aR [] [6] [] [I 1] [] [] hB trivial ?_
  refine aw_ret ?_
  refine ae_ret_block (ae_ret_then ?_)
  refine ae_ret hB (I 1) (by kernel_rfl) (.inl (by refine congrArg I ?_; unfold mtc; first | (simp [*]; done) | (simp_all; done) | (simp_all; omega))) rfl (fun _ => trivial)


-- impl.ElasticPath
set_option maxHeartbeats 4000000 in
theorem ElasticPath_ok (a : List Feat) (b : List Feat) (band : Int) (oka : okFeats a 72 = true) (okb : okFeats b 72 = true) (hbd : 0 ≤ band ∧ band ≤ 72) (hnm : inBd band a.length b.length) : ∃ (v : List Pair) (c : Int), (v = (tot a b band).reverse) ∧ (c = 0) ∧ Con Tryz.prog 71 [slFeat false a, slFeat false b, I band] true (.tup [slPair true v, I c]) := by
  have hab := okAB_of oka okb
  have hla := hab.2.2
  have hna := okFeats_n oka
  have hnb := okFeats_n okb
  have hh : ∃ r : (List Pair) × Int, ((r.1 = (tot a b band).reverse) ∧ (r.2 = 0) ∧ (True)) ∧ CallOK Tryz.prog 71 [slFeat false a, slFeat false b, I band] (lookO []) true (.tup [slPair true r.1, I r.2]) (lookO []) := by
    refine fn_okX (Φ := fun r : (List Pair) × Int => (r.1 = (tot a b band).reverse) ∧ (r.2 = 0) ∧ (True)) [] (fun r => []) (fn := Tryz.f71) (nt := 116) Tryz.func71 rfl rfl (args := [slFeat false a, slFeat false b, I band]) rfl (allcons (.inl ⟨rfl, tagFeat false _⟩) (allcons (.inl ⟨rfl, tagFeat false _⟩) (allcons (.inl ⟨rfl, trivial⟩) allnil))) (res := fun r => .tup [slPair true r.1, I r.2]) ?_
    refine xR [] [0, 1, 2] [] [slFeat false a, slFeat false b, I band] [] [] trivial ?_
    refine x_seq ?_
    refine xR [(3, .call [(true, .any), (true, .any), (true, .any)] true (I (mtc a b band)))] [0, 1, 2, 8] [] [slFeat false a, slFeat false b, I band, I (mtc a b band)] [] [Con Tryz.prog 103 [slFeat false a, slFeat false b, I band] true (I (mtc a b band)) ∧ True] ⟨⟨(matchable_ok a b band (by omega) (by omega)), trivial⟩, trivial⟩ ?_
    refine xR [(1, .dec false)] [0, 1, 2, 8, 24] [] [slFeat false a, slFeat false b, I band, I (mtc a b band), Bv false] [] [¬ ((mtc a b band) ≠ 0)] ⟨(fun hq => hq (mtc_ok oka okb hbd hnm)), trivial⟩ ?_
    refine x_false rfl ?_
    refine x_skip ?_
    refine xe_then ?_
    refine x_seq ?_
    obtain ⟨v_1, hx1_0, hc1⟩ := costTable_ok a b band hab (by omega)
    have htb := hx1_0
    refine x_r [(3, .call [(true, .any), (true, .any), (true, .any)] true (slLI true v_1))] [0, 1, 9] [] [slFeat false a, slFeat false b, slLI true v_1] [] [Con Tryz.prog 102 [slFeat false a, slFeat false b, I band] true (slLI true v_1) ∧ True] ⟨⟨hc1, trivial⟩, trivial⟩ ?_
    refine xe_then ?_
    refine xR [] [9, 10, 11] [] [slLI true v_1, I ((a.length : Int) - 1), I ((b.length : Int) - 1)] [] [inR .i64 ((a.length : Int) - 1), inR .i64 ((b.length : Int) - 1)] ⟨(inR_i64 (by omega) (by omega)), (inR_i64 (by omega) (by omega)), trivial⟩ ?_
    refine xR [(3, .new 39)] [9, 10, 11, 12] [39] [slLI true v_1, I ((a.length : Int) - 1), I ((b.length : Int) - 1), .arr 39] [some (.arr 2 1 (litF [I ((a.length : Int) - 1), I ((b.length : Int) - 1)] 2))] [] trivial ?_
    refine x_seq ?_
    refine x_block ?_
    refine x_weak [] (T := [(9, slLI true v_1), (10, I ((a.length : Int) - 1)), (11, I ((b.length : Int) - 1)), (12, .arr 39)]) (O := [(39, .arr 2 (([(Pair.mk ((a.length : Int) - 1) ((b.length : Int) - 1))]).length) (fPair ([(Pair.mk ((a.length : Int) - 1) ((b.length : Int) - 1))])))]) rfl (⟨.inl rfl, .inl rfl, .inl rfl, .inl rfl, trivial⟩) (⟨.inr ⟨rfl, (by first | rfl | (simp; done) | (simp; omega) | omega), fun i_ hi_ => .inl (match i_, hi_ with | 0, _ => rfl | (i + 1), h => absurd h (by simp))⟩, trivial⟩) ?_
    refine x_loop (X := Int × Int × (List Pair)) (fun x => mkS [(9, slLI true v_1), (10, I x.1), (11, I x.2.1), (12, .arr 39)] [(39, .arr 2 x.2.2.length (fPair x.2.2))]) (fun x => (0 ≤ x.1 ∧ x.1 < (a.length : Int)) ∧ (0 ≤ x.2.1 ∧ x.2.1 < (b.length : Int)) ∧ (inBd band x.1.toNat x.2.1.toNat) ∧ (x.1 + x.2.1 + (x.2.2.length : Int) ≤ (a.length : Int) + (b.length : Int) - 1) ∧ (x.2.2 ++ (bk a b band (a.length + b.length - x.2.2.length) x.1.toNat x.2.1.toNat).tail = tot a b band) ∧ (1 ≤ x.2.2.length) ∧ True) (fun x => (x.1 + x.2.1).toNat) (((a.length : Int) - 1), ((b.length : Int) - 1), [(Pair.mk ((a.length : Int) - 1) ((b.length : Int) - 1))]) rfl (show (0 ≤ ((a.length : Int) - 1) ∧ ((a.length : Int) - 1) < (a.length : Int)) ∧ (0 ≤ ((b.length : Int) - 1) ∧ ((b.length : Int) - 1) < (b.length : Int)) ∧ (inBd band ((a.length : Int) - 1).toNat ((b.length : Int) - 1).toNat) ∧ (((a.length : Int) - 1) + ((b.length : Int) - 1) + (([(Pair.mk ((a.length : Int) - 1) ((b.length : Int) - 1))]).length : Int) ≤ (a.length : Int) + (b.length : Int) - 1) ∧ (([(Pair.mk ((a.length : Int) - 1) ((b.length : Int) - 1))]) ++ (bk a b band (a.length + b.length - ([(Pair.mk ((a.length : Int) - 1) ((b.length : Int) - 1))]).length) ((a.length : Int) - 1).toNat ((b.length : Int) - 1).toNat).tail = tot a b band) ∧ (1 ≤ ([(Pair.mk ((a.length : Int) - 1) ((b.length : Int) - 1))]).length) ∧ True from ⟨(by omega), (by omega), (by (rw [show ((a.length : Int) - 1).toNat = a.length - 1 from by omega, show ((b.length : Int) - 1).toNat = b.length - 1 from by omega]; exact inBd_end hnm hna.1 hnb.1)), (by (simp; omega)), (by exact tot_start rfl rfl hna.1 hnb.1), (by simp), trivial⟩) (fun x hI => ?_)
    obtain ⟨i, j, back⟩ := x
    obtain ⟨hi0, hj0, hbb, hsm, htt, hb1, _⟩ : (0 ≤ i ∧ i < (a.length : Int)) ∧ (0 ≤ j ∧ j < (b.length : Int)) ∧ (inBd band i.toNat j.toNat) ∧ (i + j + (back.length : Int) ≤ (a.length : Int) + (b.length : Int) - 1) ∧ (back ++ (bk a b band (a.length + b.length - back.length) i.toNat j.toNat).tail = tot a b band) ∧ (1 ≤ back.length) ∧ True := hI
    show XW _ _ _ _ (mkS [(9, slLI true v_1), (10, I i), (11, I j), (12, .arr 39)] [(39, .arr 2 back.length (fPair back))]) _ _
    refine x_seq ?_
    refine x_seq ?_
    by_cases h1 : 0 < i
    ·have h00 : ¬ (i = 0 ∧ j = 0) := by omega
     have hrl : 1 ≤ i → ((at_ v_1 (i - 1).toNat).length : Int) = b.length := fun q => by rw [(htb.2 (i - 1).toNat (by omega)).1]
     have hrz : ((at_ v_1 (i - 0).toNat).length : Int) = b.length := by rw [(htb.2 (i - 0).toNat (by omega)).1]
     have htl := htb.1
     refine x_r [(1, .dec true)] [9, 10, 11, 12, 45] [39] [slLI true v_1, I i, I j, .arr 39, Bv true] [some (.arr 2 back.length (fPair back))] [0 < i] ⟨h1, trivial⟩ ?_
     refine xe_then ?_
     refine x_true rfl ?_
     refine x_skip ?_
     refine xe_then ?_
     refine x_block ?_
     refine xR [(3, .call [(false, slLI false v_1), (true, .any), (true, .any)] true (I (lb3 v_1 i j)))] [9, 10, 11, 12, 13] [39] [slLI true v_1, I i, I j, .arr 39, I (lb3 v_1 i j)] [some (.arr 2 back.length (fPair back))] [Con Tryz.prog 104 [slLI false v_1, I i, I j] true (I (lb3 v_1 i j)) ∧ ((false = true → true = true) ∧ 1 = 1 ∧ v_1.length = v_1.length ∧ ∀ i_, i_ < v_1.length → (fLI true v_1) i_ = (fLI false v_1) i_ ∨ (AV.idsL ((fLI false v_1) i_) = [] ∧ leL (fun _ => none) false ((fLI true v_1) i_) ((fLI false v_1) i_))) ∧ True] ⟨⟨(leastBefore_ok v_1 i j (by omega) (by omega) (fun q => by have := hrl q; omega) (fun q => by rw [hrz]; omega)), ⟨(fun h => by cases h), rfl, rfl, fun i _ => .inr ⟨idsLI _ _, leLI _ _ _⟩⟩, trivial⟩, trivial⟩ ?_
     refine x_seq ?_
     refine xR [(0, .call [] true (.agg [I 1, I 1, I 1, I 0, I 0, I 1]))] [9, 10, 11, 12, 13, 50, 51] [39] [slLI true v_1, I i, I j, .arr 39, I (lb3 v_1 i j), .agg [I 1, I 1, I 1, I 0, I 0, I 1], I 0] [some (.arr 2 back.length (fPair back))] [Con Tryz.prog 105 [] true (.agg [I 1, I 1, I 1, I 0, I 0, I 1]) ∧ True] ⟨⟨(stepsBack_ok), trivial⟩, trivial⟩ ?_
     refine x_block ?_
     refine x_loop (X := Int × Int × Int) (fun x => mkS [(9, slLI true v_1), (10, I x.1), (11, I x.2.1), (12, .arr 39), (13, I (lb3 v_1 i j)), (50, .agg [I 1, I 1, I 1, I 0, I 0, I 1]), (51, I x.2.2)] [(39, .arr 2 back.length (fPair back))]) (fun x => (0 ≤ x.2.2 ∧ x.2.2 ≤ 3) ∧ (i = x.1 ∧ j = x.2.1) ∧ (1 ≤ x.2.2 → ¬ (1 ≤ i ∧ 1 ≤ j ∧ at_ (at_ v_1 (i - 1).toNat) (j - 1).toNat = lb3 v_1 i j)) ∧ (2 ≤ x.2.2 → ¬ (1 ≤ i ∧ at_ (at_ v_1 (i - 1).toNat) (j - 0).toNat = lb3 v_1 i j)) ∧ (3 ≤ x.2.2 → False) ∧ True) (fun x => ((3 : Int) - x.2.2).toNat) (i, j, 0) rfl (show (0 ≤ (0 : Int) ∧ (0 : Int) ≤ 3) ∧ (i = i ∧ j = j) ∧ (1 ≤ (0 : Int) → ¬ (1 ≤ i ∧ 1 ≤ j ∧ at_ (at_ v_1 (i - 1).toNat) (j - 1).toNat = lb3 v_1 i j)) ∧ (2 ≤ (0 : Int) → ¬ (1 ≤ i ∧ at_ (at_ v_1 (i - 1).toNat) (j - 0).toNat = lb3 v_1 i j)) ∧ (3 ≤ (0 : Int) → False) ∧ True from ⟨(by omega), (by exact ⟨rfl, rfl⟩), (by exact fun q => absurd q (by decide)), (by exact fun q => absurd q (by decide)), (by exact fun q => absurd q (by decide)), trivial⟩) (fun x hI => ?_)
     obtain ⟨i', j', t51⟩ := x
     obtain ⟨ht0, hij, hno1, hno2, hno3, _⟩ : (0 ≤ t51 ∧ t51 ≤ 3) ∧ (i = i' ∧ j = j') ∧ (1 ≤ t51 → ¬ (1 ≤ i ∧ 1 ≤ j ∧ at_ (at_ v_1 (i - 1).toNat) (j - 1).toNat = lb3 v_1 i j)) ∧ (2 ≤ t51 → ¬ (1 ≤ i ∧ at_ (at_ v_1 (i - 1).toNat) (j - 0).toNat = lb3 v_1 i j)) ∧ (3 ≤ t51 → False) ∧ True := hI
     show XW _ _ _ _ (mkS [(9, slLI true v_1), (10, I i'), (11, I j'), (12, .arr 39), (13, I (lb3 v_1 i j)), (50, .agg [I 1, I 1, I 1, I 0, I 0, I 1]), (51, I t51)] [(39, .arr 2 back.length (fPair back))]) _ _
     refine x_seq ?_
     by_cases h2 : t51 < 3
     ·obtain ⟨rfl, rfl⟩ := hij
      have hcs : t51 = 0 ∨ t51 = 1 ∨ t51 = 2 := by omega
      rcases hcs with rfl | rfl | rfl
      ·refine x_r [(0, .dec true)] [9, 10, 11, 12, 13, 50, 51, 52] [39] [slLI true v_1, I i, I j, .arr 39, I (lb3 v_1 i j), .agg [I 1, I 1, I 1, I 0, I 0, I 1], I 0, Bv true] [some (.arr 2 back.length (fPair back))] [(0 : Int) < 3] ⟨(by decide), trivial⟩ ?_
       refine xe_then ?_
       refine x_seq ?_
       refine x_true rfl ?_
       refine x_skip ?_
       refine xe_then ?_
       refine x_seq ?_
       refine x_block ?_
       refine xR [(1, .new 15)] [9, 10, 11, 12, 13, 15, 50, 51] [15, 39] [slLI true v_1, I i, I j, .arr 39, I (lb3 v_1 i j), .ref 15 0, .agg [I 1, I 1, I 1, I 0, I 0, I 1], I 0] [some (.box [I 1, I 1]), some (.arr 2 back.length (fPair back))] [(0 : Int) ≤ 0 ∧ 0 < (3 : Int)] ⟨⟨by decide, by decide⟩, trivial⟩ ?_
       refine x_seq ?_
       by_cases h3 : 1 ≤ i
       ·by_cases h4 : 1 ≤ j
        ·by_cases h5 : (at_ (at_ v_1 ((i - 1).toNat)) ((j - 1).toNat)) = (lb3 v_1 i j)
         ·have hnx := nx_1 hab htb (by omega) (by omega) hbb h00 ⟨by omega, by omega, h5⟩
          have hgo := (nx_go hab (by omega) (by omega) hbb h00 hnx (s := 0)).1
          have hr1 := hnx.1
          have hr2 := hnx.2.1
          have htx := tot_next hab (by omega) (by omega) hbb h00 hnx hsm htt
          refine x_r [(3, .dec true), (8, .dec true), (25, .dec true)] [9, 10, 11, 12, 13, 15, 50, 51, 80] [15, 39] [slLI true v_1, I i, I j, .arr 39, I (lb3 v_1 i j), .ref 15 0, .agg [I 1, I 1, I 1, I 0, I 0, I 1], I 0, Bv true] [some (.box [I 1, I 1]), some (.arr 2 back.length (fPair back))] [(0 : Int) ≤ 0 ∧ 0 < (2 : Int), 1 ≤ i, (0 : Int) ≤ 1 ∧ 1 < (2 : Int), 1 ≤ j, (0 : Int) ≤ 0 ∧ 0 < (2 : Int), inR .i64 (i - 1), (0 : Int) ≤ (i - 1) ∧ (i - 1) < (v_1.length : Int), (0 : Int) ≤ 1 ∧ 1 < (2 : Int), inR .i64 (j - 1), (0 : Int) ≤ (j - 1) ∧ (j - 1) < (((at_ v_1 ((i - 1).toNat)).length) : Int), (at_ (at_ v_1 ((i - 1).toNat)) ((j - 1).toNat)) = (lb3 v_1 i j)] ⟨⟨by decide, by decide⟩, h3, ⟨by decide, by decide⟩, h4, ⟨by decide, by decide⟩, (inR_i64 (by omega) (by omega)), ⟨(by omega), (by omega)⟩, ⟨by decide, by decide⟩, (inR_i64 (by omega) (by omega)), ⟨(by omega), (by omega)⟩, h5, trivial⟩ ?_
          refine xe_then ?_
          refine x_true rfl ?_
          refine xR [] [9, 10, 11, 12] [39] [slLI true v_1, I (i - 1), I (j - 1), .arr 39] [some (.arr 2 back.length (fPair back))] [(0 : Int) ≤ 0 ∧ 0 < (2 : Int), inR .i64 (i - 1), (0 : Int) ≤ 1 ∧ 1 < (2 : Int), inR .i64 (j - 1)] ⟨⟨by decide, by decide⟩, (inR_i64 (by omega) (by omega)), ⟨by decide, by decide⟩, (inR_i64 (by omega) (by omega)), trivial⟩ ?_
          refine x_exit ?_
          refine xe_exit_other rfl ?_
          refine xe_exit_then ?_
          refine xe_loop_exit ?_
          refine xe_exit_same ?_
          refine xe_then ?_
          refine x_r [(4, .new 94), (5, .new 95)] [9, 10, 11, 12] [95] [slLI true v_1, I (i - 1), I (j - 1), .arr 95] [some (.arr 2 (back.length + 1) (catF back.length (fPair back) (litF [I (i - 1), I (j - 1)] 2)))] [(back.length + 1) * 16 ≤ 140737488355328] ⟨(by omega), trivial⟩ ?_
          refine xe_block 1 ?_
          refine xe_weak [(39, 95)] (T := [(9, slLI true v_1), (10, I (i - 1)), (11, I (j - 1)), (12, .arr 39)]) (O := [(39, .arr 2 ((back ++ [(Pair.mk (i - 1) (j - 1))]).length) (fPair (back ++ [(Pair.mk (i - 1) (j - 1))])))]) rfl (⟨.inl rfl, .inl rfl, .inl rfl, .inl rfl, trivial⟩) (⟨.inr ⟨rfl, (by first | rfl | (simp; done) | (simp; omega) | omega), fun i_ hi_ => .inl (cat_snoc (enc := cPair) (xs := back) rfl i_ hi_)⟩, trivial⟩) (xe_again ((i - 1), (j - 1), (back ++ [(Pair.mk (i - 1) (j - 1))])) rfl (show (0 ≤ (i - 1) ∧ (i - 1) < (a.length : Int)) ∧ (0 ≤ (j - 1) ∧ (j - 1) < (b.length : Int)) ∧ (inBd band (i - 1).toNat (j - 1).toNat) ∧ ((i - 1) + (j - 1) + ((back ++ [(Pair.mk (i - 1) (j - 1))]).length : Int) ≤ (a.length : Int) + (b.length : Int) - 1) ∧ ((back ++ [(Pair.mk (i - 1) (j - 1))]) ++ (bk a b band (a.length + b.length - (back ++ [(Pair.mk (i - 1) (j - 1))]).length) (i - 1).toNat (j - 1).toNat).tail = tot a b band) ∧ (1 ≤ (back ++ [(Pair.mk (i - 1) (j - 1))]).length) ∧ True from ⟨(by omega), (by omega), (by exact hgo.1), (by (simp; omega)), (by exact htx), (by (simp)), trivial⟩) (by first | (show (((i - 1) + (j - 1)).toNat : Nat) < (i + j).toNat; omega) | (dsimp only; omega)))
         refine x_r [(3, .dec true), (8, .dec true), (25, .dec false)] [9, 10, 11, 12, 13, 15, 50, 51, 80] [15, 39] [slLI true v_1, I i, I j, .arr 39, I (lb3 v_1 i j), .ref 15 0, .agg [I 1, I 1, I 1, I 0, I 0, I 1], I 0, Bv false] [some (.box [I 1, I 1]), some (.arr 2 back.length (fPair back))] [(0 : Int) ≤ 0 ∧ 0 < (2 : Int), 1 ≤ i, (0 : Int) ≤ 1 ∧ 1 < (2 : Int), 1 ≤ j, (0 : Int) ≤ 0 ∧ 0 < (2 : Int), inR .i64 (i - 1), (0 : Int) ≤ (i - 1) ∧ (i - 1) < (v_1.length : Int), (0 : Int) ≤ 1 ∧ 1 < (2 : Int), inR .i64 (j - 1), (0 : Int) ≤ (j - 1) ∧ (j - 1) < (((at_ v_1 ((i - 1).toNat)).length) : Int), ¬ ((at_ (at_ v_1 ((i - 1).toNat)) ((j - 1).toNat)) = (lb3 v_1 i j))] ⟨⟨by decide, by decide⟩, h3, ⟨by decide, by decide⟩, h4, ⟨by decide, by decide⟩, (inR_i64 (by omega) (by omega)), ⟨(by omega), (by omega)⟩, ⟨by decide, by decide⟩, (inR_i64 (by omega) (by omega)), ⟨(by omega), (by omega)⟩, h5, trivial⟩ ?_
         refine xe_then ?_
         refine x_false rfl ?_
         refine x_skip ?_
         refine xe_block 3 ?_
         refine xe_then ?_
         refine x_r [] [9, 10, 11, 12, 13, 50, 51] [39] [slLI true v_1, I i, I j, .arr 39, I (lb3 v_1 i j), .agg [I 1, I 1, I 1, I 0, I 0, I 1], I (0 + 1)] [some (.arr 2 back.length (fPair back))] [inR .i64 (0 + 1)] ⟨(inR_i64 (by omega) (by omega)), trivial⟩ ?_
         exact xe_again (i, j, (0 + 1)) rfl (show (0 ≤ (0 + 1) ∧ (0 + 1) ≤ 3) ∧ (i = i ∧ j = j) ∧ (1 ≤ (0 + 1) → ¬ (1 ≤ i ∧ 1 ≤ j ∧ at_ (at_ v_1 (i - 1).toNat) (j - 1).toNat = lb3 v_1 i j)) ∧ (2 ≤ (0 + 1) → ¬ (1 ≤ i ∧ at_ (at_ v_1 (i - 1).toNat) (j - 0).toNat = lb3 v_1 i j)) ∧ (3 ≤ (0 + 1) → False) ∧ True from ⟨(by omega), (by exact ⟨rfl, rfl⟩), (by first | exact fun _ => hno1 (by omega) | exact fun _ q => absurd q.1 (by assumption) | exact fun _ q => absurd q.2.1 (by assumption) | exact fun _ q => absurd q.2.2 (by assumption)), (by first | exact fun q => absurd q (by decide) | exact fun _ => hno2 (by omega) | exact fun _ q => absurd q.1 (by assumption) | exact fun _ q => absurd q.2 (by assumption)), (by first | exact fun q => absurd q (by decide) | exact fun _ => absurd (nx_3 hab htb (by omega) (by omega) hbb h00 (hno1 (by omega)) (hno2 (by omega))).2.1 (by assumption) | exact fun _ => absurd (nx_3 hab htb (by omega) (by omega) hbb h00 (hno1 (by omega)) (hno2 (by omega))).2.2 (by assumption)), trivial⟩) (by first | (show (((3 : Int) - (0 + 1)).toNat : Nat) < ((3 : Int) - t51).toNat; omega) | (dsimp only; omega))
        refine x_r [(3, .dec true), (8, .dec false)] [9, 10, 11, 12, 13, 15, 50, 51, 80] [15, 39] [slLI true v_1, I i, I j, .arr 39, I (lb3 v_1 i j), .ref 15 0, .agg [I 1, I 1, I 1, I 0, I 0, I 1], I 0, Bv false] [some (.box [I 1, I 1]), some (.arr 2 back.length (fPair back))] [(0 : Int) ≤ 0 ∧ 0 < (2 : Int), 1 ≤ i, (0 : Int) ≤ 1 ∧ 1 < (2 : Int), ¬ (1 ≤ j)] ⟨⟨by decide, by decide⟩, h3, ⟨by decide, by decide⟩, h4, trivial⟩ ?_
        refine xe_then ?_
        refine x_false rfl ?_
        refine x_skip ?_
        refine xe_block 3 ?_
        refine xe_then ?_
        refine x_r [] [9, 10, 11, 12, 13, 50, 51] [39] [slLI true v_1, I i, I j, .arr 39, I (lb3 v_1 i j), .agg [I 1, I 1, I 1, I 0, I 0, I 1], I (0 + 1)] [some (.arr 2 back.length (fPair back))] [inR .i64 (0 + 1)] ⟨(inR_i64 (by omega) (by omega)), trivial⟩ ?_
        exact xe_again (i, j, (0 + 1)) rfl (show (0 ≤ (0 + 1) ∧ (0 + 1) ≤ 3) ∧ (i = i ∧ j = j) ∧ (1 ≤ (0 + 1) → ¬ (1 ≤ i ∧ 1 ≤ j ∧ at_ (at_ v_1 (i - 1).toNat) (j - 1).toNat = lb3 v_1 i j)) ∧ (2 ≤ (0 + 1) → ¬ (1 ≤ i ∧ at_ (at_ v_1 (i - 1).toNat) (j - 0).toNat = lb3 v_1 i j)) ∧ (3 ≤ (0 + 1) → False) ∧ True from ⟨(by omega), (by exact ⟨rfl, rfl⟩), (by first | exact fun _ => hno1 (by omega) | exact fun _ q => absurd q.1 (by assumption) | exact fun _ q => absurd q.2.1 (by assumption) | exact fun _ q => absurd q.2.2 (by assumption)), (by first | exact fun q => absurd q (by decide) | exact fun _ => hno2 (by omega) | exact fun _ q => absurd q.1 (by assumption) | exact fun _ q => absurd q.2 (by assumption)), (by first | exact fun q => absurd q (by decide) | exact fun _ => absurd (nx_3 hab htb (by omega) (by omega) hbb h00 (hno1 (by omega)) (hno2 (by omega))).2.1 (by assumption) | exact fun _ => absurd (nx_3 hab htb (by omega) (by omega) hbb h00 (hno1 (by omega)) (hno2 (by omega))).2.2 (by assumption)), trivial⟩) (by first | (show (((3 : Int) - (0 + 1)).toNat : Nat) < ((3 : Int) - t51).toNat; omega) | (dsimp only; omega))
       refine x_r [(3, .dec false)] [9, 10, 11, 12, 13, 15, 50, 51, 80] [15, 39] [slLI true v_1, I i, I j, .arr 39, I (lb3 v_1 i j), .ref 15 0, .agg [I 1, I 1, I 1, I 0, I 0, I 1], I 0, Bv false] [some (.box [I 1, I 1]), some (.arr 2 back.length (fPair back))] [(0 : Int) ≤ 0 ∧ 0 < (2 : Int), ¬ (1 ≤ i)] ⟨⟨by decide, by decide⟩, h3, trivial⟩ ?_
       refine xe_then ?_
       refine x_false rfl ?_
       refine x_skip ?_
       refine xe_block 3 ?_
       refine xe_then ?_
       refine x_r [] [9, 10, 11, 12, 13, 50, 51] [39] [slLI true v_1, I i, I j, .arr 39, I (lb3 v_1 i j), .agg [I 1, I 1, I 1, I 0, I 0, I 1], I (0 + 1)] [some (.arr 2 back.length (fPair back))] [inR .i64 (0 + 1)] ⟨(inR_i64 (by omega) (by omega)), trivial⟩ ?_
       exact xe_again (i, j, (0 + 1)) rfl (show (0 ≤ (0 + 1) ∧ (0 + 1) ≤ 3) ∧ (i = i ∧ j = j) ∧ (1 ≤ (0 + 1) → ¬ (1 ≤ i ∧ 1 ≤ j ∧ at_ (at_ v_1 (i - 1).toNat) (j - 1).toNat = lb3 v_1 i j)) ∧ (2 ≤ (0 + 1) → ¬ (1 ≤ i ∧ at_ (at_ v_1 (i - 1).toNat) (j - 0).toNat = lb3 v_1 i j)) ∧ (3 ≤ (0 + 1) → False) ∧ True from ⟨(by omega), (by exact ⟨rfl, rfl⟩), (by first | exact fun _ => hno1 (by omega) | exact fun _ q => absurd q.1 (by assumption) | exact fun _ q => absurd q.2.1 (by assumption) | exact fun _ q => absurd q.2.2 (by assumption)), (by first | exact fun q => absurd q (by decide) | exact fun _ => hno2 (by omega) | exact fun _ q => absurd q.1 (by assumption) | exact fun _ q => absurd q.2 (by assumption)), (by first | exact fun q => absurd q (by decide) | exact fun _ => absurd (nx_3 hab htb (by omega) (by omega) hbb h00 (hno1 (by omega)) (hno2 (by omega))).2.1 (by assumption) | exact fun _ => absurd (nx_3 hab htb (by omega) (by omega) hbb h00 (hno1 (by omega)) (hno2 (by omega))).2.2 (by assumption)), trivial⟩) (by first | (show (((3 : Int) - (0 + 1)).toNat : Nat) < ((3 : Int) - t51).toNat; omega) | (dsimp only; omega))
      ·refine x_r [(0, .dec true)] [9, 10, 11, 12, 13, 50, 51, 52] [39] [slLI true v_1, I i, I j, .arr 39, I (lb3 v_1 i j), .agg [I 1, I 1, I 1, I 0, I 0, I 1], I 1, Bv true] [some (.arr 2 back.length (fPair back))] [(1 : Int) < 3] ⟨(by decide), trivial⟩ ?_
       refine xe_then ?_
       refine x_seq ?_
       refine x_true rfl ?_
       refine x_skip ?_
       refine xe_then ?_
       refine x_seq ?_
       refine x_block ?_
       refine xR [(1, .new 15)] [9, 10, 11, 12, 13, 15, 50, 51] [15, 39] [slLI true v_1, I i, I j, .arr 39, I (lb3 v_1 i j), .ref 15 0, .agg [I 1, I 1, I 1, I 0, I 0, I 1], I 1] [some (.box [I 1, I 0]), some (.arr 2 back.length (fPair back))] [(0 : Int) ≤ 1 ∧ 1 < (3 : Int)] ⟨⟨by decide, by decide⟩, trivial⟩ ?_
       refine x_seq ?_
       by_cases h6 : 1 ≤ i
       ·by_cases h7 : (at_ (at_ v_1 ((i - 1).toNat)) ((j - 0).toNat)) = (lb3 v_1 i j)
        ·have hnx := nx_2 hab htb (by omega) (by omega) hbb h00 (hno1 (by omega)) ⟨by omega, h7⟩
         have hgo := (nx_go hab (by omega) (by omega) hbb h00 hnx (s := 0)).1
         have hr1 := hnx.1
         have hr2 := hnx.2.1
         have htx := tot_next hab (by omega) (by omega) hbb h00 hnx hsm htt
         refine x_r [(3, .dec true), (8, .dec true), (25, .dec true)] [9, 10, 11, 12, 13, 15, 50, 51, 80] [15, 39] [slLI true v_1, I i, I j, .arr 39, I (lb3 v_1 i j), .ref 15 0, .agg [I 1, I 1, I 1, I 0, I 0, I 1], I 1, Bv true] [some (.box [I 1, I 0]), some (.arr 2 back.length (fPair back))] [(0 : Int) ≤ 0 ∧ 0 < (2 : Int), 1 ≤ i, (0 : Int) ≤ 1 ∧ 1 < (2 : Int), 0 ≤ j, (0 : Int) ≤ 0 ∧ 0 < (2 : Int), inR .i64 (i - 1), (0 : Int) ≤ (i - 1) ∧ (i - 1) < (v_1.length : Int), (0 : Int) ≤ 1 ∧ 1 < (2 : Int), inR .i64 (j - 0), (0 : Int) ≤ (j - 0) ∧ (j - 0) < (((at_ v_1 ((i - 1).toNat)).length) : Int), (at_ (at_ v_1 ((i - 1).toNat)) ((j - 0).toNat)) = (lb3 v_1 i j)] ⟨⟨by decide, by decide⟩, h6, ⟨by decide, by decide⟩, (by omega), ⟨by decide, by decide⟩, (inR_i64 (by omega) (by omega)), ⟨(by omega), (by omega)⟩, ⟨by decide, by decide⟩, (inR_i64 (by omega) (by omega)), ⟨(by omega), (by omega)⟩, h7, trivial⟩ ?_
         refine xe_then ?_
         refine x_true rfl ?_
         refine xR [] [9, 10, 11, 12] [39] [slLI true v_1, I (i - 1), I (j - 0), .arr 39] [some (.arr 2 back.length (fPair back))] [(0 : Int) ≤ 0 ∧ 0 < (2 : Int), inR .i64 (i - 1), (0 : Int) ≤ 1 ∧ 1 < (2 : Int), inR .i64 (j - 0)] ⟨⟨by decide, by decide⟩, (inR_i64 (by omega) (by omega)), ⟨by decide, by decide⟩, (inR_i64 (by omega) (by omega)), trivial⟩ ?_
         refine x_exit ?_
         refine xe_exit_other rfl ?_
         refine xe_exit_then ?_
         refine xe_loop_exit ?_
         refine xe_exit_same ?_
         refine xe_then ?_
         refine x_r [(4, .new 94), (5, .new 95)] [9, 10, 11, 12] [95] [slLI true v_1, I (i - 1), I (j - 0), .arr 95] [some (.arr 2 (back.length + 1) (catF back.length (fPair back) (litF [I (i - 1), I (j - 0)] 2)))] [(back.length + 1) * 16 ≤ 140737488355328] ⟨(by omega), trivial⟩ ?_
         refine xe_block 1 ?_
         refine xe_weak [(39, 95)] (T := [(9, slLI true v_1), (10, I (i - 1)), (11, I (j - 0)), (12, .arr 39)]) (O := [(39, .arr 2 ((back ++ [(Pair.mk (i - 1) (j - 0))]).length) (fPair (back ++ [(Pair.mk (i - 1) (j - 0))])))]) rfl (⟨.inl rfl, .inl rfl, .inl rfl, .inl rfl, trivial⟩) (⟨.inr ⟨rfl, (by first | rfl | (simp; done) | (simp; omega) | omega), fun i_ hi_ => .inl (cat_snoc (enc := cPair) (xs := back) rfl i_ hi_)⟩, trivial⟩) (xe_again ((i - 1), (j - 0), (back ++ [(Pair.mk (i - 1) (j - 0))])) rfl (show (0 ≤ (i - 1) ∧ (i - 1) < (a.length : Int)) ∧ (0 ≤ (j - 0) ∧ (j - 0) < (b.length : Int)) ∧ (inBd band (i - 1).toNat (j - 0).toNat) ∧ ((i - 1) + (j - 0) + ((back ++ [(Pair.mk (i - 1) (j - 0))]).length : Int) ≤ (a.length : Int) + (b.length : Int) - 1) ∧ ((back ++ [(Pair.mk (i - 1) (j - 0))]) ++ (bk a b band (a.length + b.length - (back ++ [(Pair.mk (i - 1) (j - 0))]).length) (i - 1).toNat (j - 0).toNat).tail = tot a b band) ∧ (1 ≤ (back ++ [(Pair.mk (i - 1) (j - 0))]).length) ∧ True from ⟨(by omega), (by omega), (by exact hgo.1), (by (simp; omega)), (by exact htx), (by (simp)), trivial⟩) (by first | (show (((i - 1) + (j - 0)).toNat : Nat) < (i + j).toNat; omega) | (dsimp only; omega)))
        refine x_r [(3, .dec true), (8, .dec true), (25, .dec false)] [9, 10, 11, 12, 13, 15, 50, 51, 80] [15, 39] [slLI true v_1, I i, I j, .arr 39, I (lb3 v_1 i j), .ref 15 0, .agg [I 1, I 1, I 1, I 0, I 0, I 1], I 1, Bv false] [some (.box [I 1, I 0]), some (.arr 2 back.length (fPair back))] [(0 : Int) ≤ 0 ∧ 0 < (2 : Int), 1 ≤ i, (0 : Int) ≤ 1 ∧ 1 < (2 : Int), 0 ≤ j, (0 : Int) ≤ 0 ∧ 0 < (2 : Int), inR .i64 (i - 1), (0 : Int) ≤ (i - 1) ∧ (i - 1) < (v_1.length : Int), (0 : Int) ≤ 1 ∧ 1 < (2 : Int), inR .i64 (j - 0), (0 : Int) ≤ (j - 0) ∧ (j - 0) < (((at_ v_1 ((i - 1).toNat)).length) : Int), ¬ ((at_ (at_ v_1 ((i - 1).toNat)) ((j - 0).toNat)) = (lb3 v_1 i j))] ⟨⟨by decide, by decide⟩, h6, ⟨by decide, by decide⟩, (by omega), ⟨by decide, by decide⟩, (inR_i64 (by omega) (by omega)), ⟨(by omega), (by omega)⟩, ⟨by decide, by decide⟩, (inR_i64 (by omega) (by omega)), ⟨(by omega), (by omega)⟩, h7, trivial⟩ ?_
        refine xe_then ?_
        refine x_false rfl ?_
        refine x_skip ?_
        refine xe_block 3 ?_
        refine xe_then ?_
        refine x_r [] [9, 10, 11, 12, 13, 50, 51] [39] [slLI true v_1, I i, I j, .arr 39, I (lb3 v_1 i j), .agg [I 1, I 1, I 1, I 0, I 0, I 1], I (1 + 1)] [some (.arr 2 back.length (fPair back))] [inR .i64 (1 + 1)] ⟨(inR_i64 (by omega) (by omega)), trivial⟩ ?_
        exact xe_again (i, j, (1 + 1)) rfl (show (0 ≤ (1 + 1) ∧ (1 + 1) ≤ 3) ∧ (i = i ∧ j = j) ∧ (1 ≤ (1 + 1) → ¬ (1 ≤ i ∧ 1 ≤ j ∧ at_ (at_ v_1 (i - 1).toNat) (j - 1).toNat = lb3 v_1 i j)) ∧ (2 ≤ (1 + 1) → ¬ (1 ≤ i ∧ at_ (at_ v_1 (i - 1).toNat) (j - 0).toNat = lb3 v_1 i j)) ∧ (3 ≤ (1 + 1) → False) ∧ True from ⟨(by omega), (by exact ⟨rfl, rfl⟩), (by first | exact fun _ => hno1 (by omega) | exact fun _ q => absurd q.1 (by assumption) | exact fun _ q => absurd q.2.1 (by assumption) | exact fun _ q => absurd q.2.2 (by assumption)), (by first | exact fun q => absurd q (by decide) | exact fun _ => hno2 (by omega) | exact fun _ q => absurd q.1 (by assumption) | exact fun _ q => absurd q.2 (by assumption)), (by first | exact fun q => absurd q (by decide) | exact fun _ => absurd (nx_3 hab htb (by omega) (by omega) hbb h00 (hno1 (by omega)) (hno2 (by omega))).2.1 (by assumption) | exact fun _ => absurd (nx_3 hab htb (by omega) (by omega) hbb h00 (hno1 (by omega)) (hno2 (by omega))).2.2 (by assumption)), trivial⟩) (by first | (show (((3 : Int) - (1 + 1)).toNat : Nat) < ((3 : Int) - t51).toNat; omega) | (dsimp only; omega))
       refine x_r [(3, .dec false)] [9, 10, 11, 12, 13, 15, 50, 51, 80] [15, 39] [slLI true v_1, I i, I j, .arr 39, I (lb3 v_1 i j), .ref 15 0, .agg [I 1, I 1, I 1, I 0, I 0, I 1], I 1, Bv false] [some (.box [I 1, I 0]), some (.arr 2 back.length (fPair back))] [(0 : Int) ≤ 0 ∧ 0 < (2 : Int), ¬ (1 ≤ i)] ⟨⟨by decide, by decide⟩, h6, trivial⟩ ?_
       refine xe_then ?_
       refine x_false rfl ?_
       refine x_skip ?_
       refine xe_block 3 ?_
       refine xe_then ?_
       refine x_r [] [9, 10, 11, 12, 13, 50, 51] [39] [slLI true v_1, I i, I j, .arr 39, I (lb3 v_1 i j), .agg [I 1, I 1, I 1, I 0, I 0, I 1], I (1 + 1)] [some (.arr 2 back.length (fPair back))] [inR .i64 (1 + 1)] ⟨(inR_i64 (by omega) (by omega)), trivial⟩ ?_
       exact xe_again (i, j, (1 + 1)) rfl (show (0 ≤ (1 + 1) ∧ (1 + 1) ≤ 3) ∧ (i = i ∧ j = j) ∧ (1 ≤ (1 + 1) → ¬ (1 ≤ i ∧ 1 ≤ j ∧ at_ (at_ v_1 (i - 1).toNat) (j - 1).toNat = lb3 v_1 i j)) ∧ (2 ≤ (1 + 1) → ¬ (1 ≤ i ∧ at_ (at_ v_1 (i - 1).toNat) (j - 0).toNat = lb3 v_1 i j)) ∧ (3 ≤ (1 + 1) → False) ∧ True from ⟨(by omega), (by exact ⟨rfl, rfl⟩), (by first | exact fun _ => hno1 (by omega) | exact fun _ q => absurd q.1 (by assumption) | exact fun _ q => absurd q.2.1 (by assumption) | exact fun _ q => absurd q.2.2 (by assumption)), (by first | exact fun q => absurd q (by decide) | exact fun _ => hno2 (by omega) | exact fun _ q => absurd q.1 (by assumption) | exact fun _ q => absurd q.2 (by assumption)), (by first | exact fun q => absurd q (by decide) | exact fun _ => absurd (nx_3 hab htb (by omega) (by omega) hbb h00 (hno1 (by omega)) (hno2 (by omega))).2.1 (by assumption) | exact fun _ => absurd (nx_3 hab htb (by omega) (by omega) hbb h00 (hno1 (by omega)) (hno2 (by omega))).2.2 (by assumption)), trivial⟩) (by first | (show (((3 : Int) - (1 + 1)).toNat : Nat) < ((3 : Int) - t51).toNat; omega) | (dsimp only; omega))
      ·refine x_r [(0, .dec true)] [9, 10, 11, 12, 13, 50, 51, 52] [39] [slLI true v_1, I i, I j, .arr 39, I (lb3 v_1 i j), .agg [I 1, I 1, I 1, I 0, I 0, I 1], I 2, Bv true] [some (.arr 2 back.length (fPair back))] [(2 : Int) < 3] ⟨(by decide), trivial⟩ ?_
       refine xe_then ?_
       refine x_seq ?_
       refine x_true rfl ?_
       refine x_skip ?_
       refine xe_then ?_
       refine x_seq ?_
       refine x_block ?_
       refine xR [(1, .new 15)] [9, 10, 11, 12, 13, 15, 50, 51] [15, 39] [slLI true v_1, I i, I j, .arr 39, I (lb3 v_1 i j), .ref 15 0, .agg [I 1, I 1, I 1, I 0, I 0, I 1], I 2] [some (.box [I 0, I 1]), some (.arr 2 back.length (fPair back))] [(0 : Int) ≤ 2 ∧ 2 < (3 : Int)] ⟨⟨by decide, by decide⟩, trivial⟩ ?_
       refine x_seq ?_
       by_cases h8 : 1 ≤ j
       ·by_cases h9 : (at_ (at_ v_1 ((i - 0).toNat)) ((j - 1).toNat)) = (lb3 v_1 i j)
        ·have hnx := (nx_3 hab htb (by omega) (by omega) hbb h00 (hno1 (by omega)) (hno2 (by omega))).1
         have hgo := (nx_go hab (by omega) (by omega) hbb h00 hnx (s := 0)).1
         have hr1 := hnx.1
         have hr2 := hnx.2.1
         have htx := tot_next hab (by omega) (by omega) hbb h00 hnx hsm htt
         refine x_r [(3, .dec true), (8, .dec true), (25, .dec true)] [9, 10, 11, 12, 13, 15, 50, 51, 80] [15, 39] [slLI true v_1, I i, I j, .arr 39, I (lb3 v_1 i j), .ref 15 0, .agg [I 1, I 1, I 1, I 0, I 0, I 1], I 2, Bv true] [some (.box [I 0, I 1]), some (.arr 2 back.length (fPair back))] [(0 : Int) ≤ 0 ∧ 0 < (2 : Int), 0 ≤ i, (0 : Int) ≤ 1 ∧ 1 < (2 : Int), 1 ≤ j, (0 : Int) ≤ 0 ∧ 0 < (2 : Int), inR .i64 (i - 0), (0 : Int) ≤ (i - 0) ∧ (i - 0) < (v_1.length : Int), (0 : Int) ≤ 1 ∧ 1 < (2 : Int), inR .i64 (j - 1), (0 : Int) ≤ (j - 1) ∧ (j - 1) < (((at_ v_1 ((i - 0).toNat)).length) : Int), (at_ (at_ v_1 ((i - 0).toNat)) ((j - 1).toNat)) = (lb3 v_1 i j)] ⟨⟨by decide, by decide⟩, (by omega), ⟨by decide, by decide⟩, h8, ⟨by decide, by decide⟩, (inR_i64 (by omega) (by omega)), ⟨(by omega), (by omega)⟩, ⟨by decide, by decide⟩, (inR_i64 (by omega) (by omega)), ⟨(by omega), (by omega)⟩, h9, trivial⟩ ?_
         refine xe_then ?_
         refine x_true rfl ?_
         refine xR [] [9, 10, 11, 12] [39] [slLI true v_1, I (i - 0), I (j - 1), .arr 39] [some (.arr 2 back.length (fPair back))] [(0 : Int) ≤ 0 ∧ 0 < (2 : Int), inR .i64 (i - 0), (0 : Int) ≤ 1 ∧ 1 < (2 : Int), inR .i64 (j - 1)] ⟨⟨by decide, by decide⟩, (inR_i64 (by omega) (by omega)), ⟨by decide, by decide⟩, (inR_i64 (by omega) (by omega)), trivial⟩ ?_
         refine x_exit ?_
         refine xe_exit_other rfl ?_
         refine xe_exit_then ?_
         refine xe_loop_exit ?_
         refine xe_exit_same ?_
         refine xe_then ?_
         refine x_r [(4, .new 94), (5, .new 95)] [9, 10, 11, 12] [95] [slLI true v_1, I (i - 0), I (j - 1), .arr 95] [some (.arr 2 (back.length + 1) (catF back.length (fPair back) (litF [I (i - 0), I (j - 1)] 2)))] [(back.length + 1) * 16 ≤ 140737488355328] ⟨(by omega), trivial⟩ ?_
         refine xe_block 1 ?_
         refine xe_weak [(39, 95)] (T := [(9, slLI true v_1), (10, I (i - 0)), (11, I (j - 1)), (12, .arr 39)]) (O := [(39, .arr 2 ((back ++ [(Pair.mk (i - 0) (j - 1))]).length) (fPair (back ++ [(Pair.mk (i - 0) (j - 1))])))]) rfl (⟨.inl rfl, .inl rfl, .inl rfl, .inl rfl, trivial⟩) (⟨.inr ⟨rfl, (by first | rfl | (simp; done) | (simp; omega) | omega), fun i_ hi_ => .inl (cat_snoc (enc := cPair) (xs := back) rfl i_ hi_)⟩, trivial⟩) (xe_again ((i - 0), (j - 1), (back ++ [(Pair.mk (i - 0) (j - 1))])) rfl (show (0 ≤ (i - 0) ∧ (i - 0) < (a.length : Int)) ∧ (0 ≤ (j - 1) ∧ (j - 1) < (b.length : Int)) ∧ (inBd band (i - 0).toNat (j - 1).toNat) ∧ ((i - 0) + (j - 1) + ((back ++ [(Pair.mk (i - 0) (j - 1))]).length : Int) ≤ (a.length : Int) + (b.length : Int) - 1) ∧ ((back ++ [(Pair.mk (i - 0) (j - 1))]) ++ (bk a b band (a.length + b.length - (back ++ [(Pair.mk (i - 0) (j - 1))]).length) (i - 0).toNat (j - 1).toNat).tail = tot a b band) ∧ (1 ≤ (back ++ [(Pair.mk (i - 0) (j - 1))]).length) ∧ True from ⟨(by omega), (by omega), (by exact hgo.1), (by (simp; omega)), (by exact htx), (by (simp)), trivial⟩) (by first | (show (((i - 0) + (j - 1)).toNat : Nat) < (i + j).toNat; omega) | (dsimp only; omega)))
        refine x_r [(3, .dec true), (8, .dec true), (25, .dec false)] [9, 10, 11, 12, 13, 15, 50, 51, 80] [15, 39] [slLI true v_1, I i, I j, .arr 39, I (lb3 v_1 i j), .ref 15 0, .agg [I 1, I 1, I 1, I 0, I 0, I 1], I 2, Bv false] [some (.box [I 0, I 1]), some (.arr 2 back.length (fPair back))] [(0 : Int) ≤ 0 ∧ 0 < (2 : Int), 0 ≤ i, (0 : Int) ≤ 1 ∧ 1 < (2 : Int), 1 ≤ j, (0 : Int) ≤ 0 ∧ 0 < (2 : Int), inR .i64 (i - 0), (0 : Int) ≤ (i - 0) ∧ (i - 0) < (v_1.length : Int), (0 : Int) ≤ 1 ∧ 1 < (2 : Int), inR .i64 (j - 1), (0 : Int) ≤ (j - 1) ∧ (j - 1) < (((at_ v_1 ((i - 0).toNat)).length) : Int), ¬ ((at_ (at_ v_1 ((i - 0).toNat)) ((j - 1).toNat)) = (lb3 v_1 i j))] ⟨⟨by decide, by decide⟩, (by omega), ⟨by decide, by decide⟩, h8, ⟨by decide, by decide⟩, (inR_i64 (by omega) (by omega)), ⟨(by omega), (by omega)⟩, ⟨by decide, by decide⟩, (inR_i64 (by omega) (by omega)), ⟨(by omega), (by omega)⟩, h9, trivial⟩ ?_
        refine xe_then ?_
        refine x_false rfl ?_
        refine x_skip ?_
        refine xe_block 3 ?_
        refine xe_then ?_
        refine x_r [] [9, 10, 11, 12, 13, 50, 51] [39] [slLI true v_1, I i, I j, .arr 39, I (lb3 v_1 i j), .agg [I 1, I 1, I 1, I 0, I 0, I 1], I (2 + 1)] [some (.arr 2 back.length (fPair back))] [inR .i64 (2 + 1)] ⟨(inR_i64 (by omega) (by omega)), trivial⟩ ?_
        exact xe_again (i, j, (2 + 1)) rfl (show (0 ≤ (2 + 1) ∧ (2 + 1) ≤ 3) ∧ (i = i ∧ j = j) ∧ (1 ≤ (2 + 1) → ¬ (1 ≤ i ∧ 1 ≤ j ∧ at_ (at_ v_1 (i - 1).toNat) (j - 1).toNat = lb3 v_1 i j)) ∧ (2 ≤ (2 + 1) → ¬ (1 ≤ i ∧ at_ (at_ v_1 (i - 1).toNat) (j - 0).toNat = lb3 v_1 i j)) ∧ (3 ≤ (2 + 1) → False) ∧ True from ⟨(by omega), (by exact ⟨rfl, rfl⟩), (by first | exact fun _ => hno1 (by omega) | exact fun _ q => absurd q.1 (by assumption) | exact fun _ q => absurd q.2.1 (by assumption) | exact fun _ q => absurd q.2.2 (by assumption)), (by first | exact fun q => absurd q (by decide) | exact fun _ => hno2 (by omega) | exact fun _ q => absurd q.1 (by assumption) | exact fun _ q => absurd q.2 (by assumption)), (by first | exact fun q => absurd q (by decide) | exact fun _ => absurd (nx_3 hab htb (by omega) (by omega) hbb h00 (hno1 (by omega)) (hno2 (by omega))).2.1 (by assumption) | exact fun _ => absurd (nx_3 hab htb (by omega) (by omega) hbb h00 (hno1 (by omega)) (hno2 (by omega))).2.2 (by assumption)), trivial⟩) (by first | (show (((3 : Int) - (2 + 1)).toNat : Nat) < ((3 : Int) - t51).toNat; omega) | (dsimp only; omega))
       refine x_r [(3, .dec true), (8, .dec false)] [9, 10, 11, 12, 13, 15, 50, 51, 80] [15, 39] [slLI true v_1, I i, I j, .arr 39, I (lb3 v_1 i j), .ref 15 0, .agg [I 1, I 1, I 1, I 0, I 0, I 1], I 2, Bv false] [some (.box [I 0, I 1]), some (.arr 2 back.length (fPair back))] [(0 : Int) ≤ 0 ∧ 0 < (2 : Int), 0 ≤ i, (0 : Int) ≤ 1 ∧ 1 < (2 : Int), ¬ (1 ≤ j)] ⟨⟨by decide, by decide⟩, (by omega), ⟨by decide, by decide⟩, h8, trivial⟩ ?_
       refine xe_then ?_
       refine x_false rfl ?_
       refine x_skip ?_
       refine xe_block 3 ?_
       refine xe_then ?_
       refine x_r [] [9, 10, 11, 12, 13, 50, 51] [39] [slLI true v_1, I i, I j, .arr 39, I (lb3 v_1 i j), .agg [I 1, I 1, I 1, I 0, I 0, I 1], I (2 + 1)] [some (.arr 2 back.length (fPair back))] [inR .i64 (2 + 1)] ⟨(inR_i64 (by omega) (by omega)), trivial⟩ ?_
       exact xe_again (i, j, (2 + 1)) rfl (show (0 ≤ (2 + 1) ∧ (2 + 1) ≤ 3) ∧ (i = i ∧ j = j) ∧ (1 ≤ (2 + 1) → ¬ (1 ≤ i ∧ 1 ≤ j ∧ at_ (at_ v_1 (i - 1).toNat) (j - 1).toNat = lb3 v_1 i j)) ∧ (2 ≤ (2 + 1) → ¬ (1 ≤ i ∧ at_ (at_ v_1 (i - 1).toNat) (j - 0).toNat = lb3 v_1 i j)) ∧ (3 ≤ (2 + 1) → False) ∧ True from ⟨(by omega), (by exact ⟨rfl, rfl⟩), (by first | exact fun _ => hno1 (by omega) | exact fun _ q => absurd q.1 (by assumption) | exact fun _ q => absurd q.2.1 (by assumption) | exact fun _ q => absurd q.2.2 (by assumption)), (by first | exact fun q => absurd q (by decide) | exact fun _ => hno2 (by omega) | exact fun _ q => absurd q.1 (by assumption) | exact fun _ q => absurd q.2 (by assumption)), (by first | exact fun q => absurd q (by decide) | exact fun _ => absurd (nx_3 hab htb (by omega) (by omega) hbb h00 (hno1 (by omega)) (hno2 (by omega))).2.1 (by assumption) | exact fun _ => absurd (nx_3 hab htb (by omega) (by omega) hbb h00 (hno1 (by omega)) (hno2 (by omega))).2.2 (by assumption)), trivial⟩) (by first | (show (((3 : Int) - (2 + 1)).toNat : Nat) < ((3 : Int) - t51).toNat; omega) | (dsimp only; omega))
     exact (hno3 (by omega)).elim
    by_cases h10 : 0 < j
    ·have h00 : ¬ (i = 0 ∧ j = 0) := by omega
     have hrl : 1 ≤ i → ((at_ v_1 (i - 1).toNat).length : Int) = b.length := fun q => by rw [(htb.2 (i - 1).toNat (by omega)).1]
     have hrz : ((at_ v_1 (i - 0).toNat).length : Int) = b.length := by rw [(htb.2 (i - 0).toNat (by omega)).1]
     have htl := htb.1
     refine x_r [(1, .dec false), (4, .dec true)] [9, 10, 11, 12, 45] [39] [slLI true v_1, I i, I j, .arr 39, Bv true] [some (.arr 2 back.length (fPair back))] [¬ (0 < i), 0 < j] ⟨h1, h10, trivial⟩ ?_
     refine xe_then ?_
     refine x_true rfl ?_
     refine x_skip ?_
     refine xe_then ?_
     refine x_block ?_
     refine xR [(3, .call [(false, slLI false v_1), (true, .any), (true, .any)] true (I (lb3 v_1 i j)))] [9, 10, 11, 12, 13] [39] [slLI true v_1, I i, I j, .arr 39, I (lb3 v_1 i j)] [some (.arr 2 back.length (fPair back))] [Con Tryz.prog 104 [slLI false v_1, I i, I j] true (I (lb3 v_1 i j)) ∧ ((false = true → true = true) ∧ 1 = 1 ∧ v_1.length = v_1.length ∧ ∀ i_, i_ < v_1.length → (fLI true v_1) i_ = (fLI false v_1) i_ ∨ (AV.idsL ((fLI false v_1) i_) = [] ∧ leL (fun _ => none) false ((fLI true v_1) i_) ((fLI false v_1) i_))) ∧ True] ⟨⟨(leastBefore_ok v_1 i j (by omega) (by omega) (fun q => by have := hrl q; omega) (fun q => by rw [hrz]; omega)), ⟨(fun h => by cases h), rfl, rfl, fun i _ => .inr ⟨idsLI _ _, leLI _ _ _⟩⟩, trivial⟩, trivial⟩ ?_
     refine x_seq ?_
     refine xR [(0, .call [] true (.agg [I 1, I 1, I 1, I 0, I 0, I 1]))] [9, 10, 11, 12, 13, 50, 51] [39] [slLI true v_1, I i, I j, .arr 39, I (lb3 v_1 i j), .agg [I 1, I 1, I 1, I 0, I 0, I 1], I 0] [some (.arr 2 back.length (fPair back))] [Con Tryz.prog 105 [] true (.agg [I 1, I 1, I 1, I 0, I 0, I 1]) ∧ True] ⟨⟨(stepsBack_ok), trivial⟩, trivial⟩ ?_
     refine x_block ?_
     refine x_loop (X := Int × Int × Int) (fun x => mkS [(9, slLI true v_1), (10, I x.1), (11, I x.2.1), (12, .arr 39), (13, I (lb3 v_1 i j)), (50, .agg [I 1, I 1, I 1, I 0, I 0, I 1]), (51, I x.2.2)] [(39, .arr 2 back.length (fPair back))]) (fun x => (0 ≤ x.2.2 ∧ x.2.2 ≤ 3) ∧ (i = x.1 ∧ j = x.2.1) ∧ (1 ≤ x.2.2 → ¬ (1 ≤ i ∧ 1 ≤ j ∧ at_ (at_ v_1 (i - 1).toNat) (j - 1).toNat = lb3 v_1 i j)) ∧ (2 ≤ x.2.2 → ¬ (1 ≤ i ∧ at_ (at_ v_1 (i - 1).toNat) (j - 0).toNat = lb3 v_1 i j)) ∧ (3 ≤ x.2.2 → False) ∧ True) (fun x => ((3 : Int) - x.2.2).toNat) (i, j, 0) rfl (show (0 ≤ (0 : Int) ∧ (0 : Int) ≤ 3) ∧ (i = i ∧ j = j) ∧ (1 ≤ (0 : Int) → ¬ (1 ≤ i ∧ 1 ≤ j ∧ at_ (at_ v_1 (i - 1).toNat) (j - 1).toNat = lb3 v_1 i j)) ∧ (2 ≤ (0 : Int) → ¬ (1 ≤ i ∧ at_ (at_ v_1 (i - 1).toNat) (j - 0).toNat = lb3 v_1 i j)) ∧ (3 ≤ (0 : Int) → False) ∧ True from ⟨(by omega), (by exact ⟨rfl, rfl⟩), (by exact fun q => absurd q (by decide)), (by exact fun q => absurd q (by decide)), (by exact fun q => absurd q (by decide)), trivial⟩) (fun x hI => ?_)
     obtain ⟨i', j', t51⟩ := x
     obtain ⟨ht0, hij, hno1, hno2, hno3, _⟩ : (0 ≤ t51 ∧ t51 ≤ 3) ∧ (i = i' ∧ j = j') ∧ (1 ≤ t51 → ¬ (1 ≤ i ∧ 1 ≤ j ∧ at_ (at_ v_1 (i - 1).toNat) (j - 1).toNat = lb3 v_1 i j)) ∧ (2 ≤ t51 → ¬ (1 ≤ i ∧ at_ (at_ v_1 (i - 1).toNat) (j - 0).toNat = lb3 v_1 i j)) ∧ (3 ≤ t51 → False) ∧ True := hI
     show XW _ _ _ _ (mkS [(9, slLI true v_1), (10, I i'), (11, I j'), (12, .arr 39), (13, I (lb3 v_1 i j)), (50, .agg [I 1, I 1, I 1, I 0, I 0, I 1]), (51, I t51)] [(39, .arr 2 back.length (fPair back))]) _ _
     refine x_seq ?_
     by_cases h11 : t51 < 3
     ·obtain ⟨rfl, rfl⟩ := hij
      have hcs : t51 = 0 ∨ t51 = 1 ∨ t51 = 2 := by omega
      rcases hcs with rfl | rfl | rfl
      ·refine x_r [(0, .dec true)] [9, 10, 11, 12, 13, 50, 51, 52] [39] [slLI true v_1, I i, I j, .arr 39, I (lb3 v_1 i j), .agg [I 1, I 1, I 1, I 0, I 0, I 1], I 0, Bv true] [some (.arr 2 back.length (fPair back))] [(0 : Int) < 3] ⟨(by decide), trivial⟩ ?_
       refine xe_then ?_
       refine x_seq ?_
       refine x_true rfl ?_
       refine x_skip ?_
       refine xe_then ?_
       refine x_seq ?_
       refine x_block ?_
       refine xR [(1, .new 15)] [9, 10, 11, 12, 13, 15, 50, 51] [15, 39] [slLI true v_1, I i, I j, .arr 39, I (lb3 v_1 i j), .ref 15 0, .agg [I 1, I 1, I 1, I 0, I 0, I 1], I 0] [some (.box [I 1, I 1]), some (.arr 2 back.length (fPair back))] [(0 : Int) ≤ 0 ∧ 0 < (3 : Int)] ⟨⟨by decide, by decide⟩, trivial⟩ ?_
       refine x_seq ?_
       by_cases h12 : 1 ≤ i
       ·by_cases h13 : 1 ≤ j
        ·by_cases h14 : (at_ (at_ v_1 ((i - 1).toNat)) ((j - 1).toNat)) = (lb3 v_1 i j)
         ·have hnx := nx_1 hab htb (by omega) (by omega) hbb h00 ⟨by omega, by omega, h14⟩
          have hgo := (nx_go hab (by omega) (by omega) hbb h00 hnx (s := 0)).1
          have hr1 := hnx.1
          have hr2 := hnx.2.1
          have htx := tot_next hab (by omega) (by omega) hbb h00 hnx hsm htt
          refine x_r [(3, .dec true), (8, .dec true), (25, .dec true)] [9, 10, 11, 12, 13, 15, 50, 51, 80] [15, 39] [slLI true v_1, I i, I j, .arr 39, I (lb3 v_1 i j), .ref 15 0, .agg [I 1, I 1, I 1, I 0, I 0, I 1], I 0, Bv true] [some (.box [I 1, I 1]), some (.arr 2 back.length (fPair back))] [(0 : Int) ≤ 0 ∧ 0 < (2 : Int), 1 ≤ i, (0 : Int) ≤ 1 ∧ 1 < (2 : Int), 1 ≤ j, (0 : Int) ≤ 0 ∧ 0 < (2 : Int), inR .i64 (i - 1), (0 : Int) ≤ (i - 1) ∧ (i - 1) < (v_1.length : Int), (0 : Int) ≤ 1 ∧ 1 < (2 : Int), inR .i64 (j - 1), (0 : Int) ≤ (j - 1) ∧ (j - 1) < (((at_ v_1 ((i - 1).toNat)).length) : Int), (at_ (at_ v_1 ((i - 1).toNat)) ((j - 1).toNat)) = (lb3 v_1 i j)] ⟨⟨by decide, by decide⟩, h12, ⟨by decide, by decide⟩, h13, ⟨by decide, by decide⟩, (inR_i64 (by omega) (by omega)), ⟨(by omega), (by omega)⟩, ⟨by decide, by decide⟩, (inR_i64 (by omega) (by omega)), ⟨(by omega), (by omega)⟩, h14, trivial⟩ ?_
          refine xe_then ?_
          refine x_true rfl ?_
          refine xR [] [9, 10, 11, 12] [39] [slLI true v_1, I (i - 1), I (j - 1), .arr 39] [some (.arr 2 back.length (fPair back))] [(0 : Int) ≤ 0 ∧ 0 < (2 : Int), inR .i64 (i - 1), (0 : Int) ≤ 1 ∧ 1 < (2 : Int), inR .i64 (j - 1)] ⟨⟨by decide, by decide⟩, (inR_i64 (by omega) (by omega)), ⟨by decide, by decide⟩, (inR_i64 (by omega) (by omega)), trivial⟩ ?_
          refine x_exit ?_
          refine xe_exit_other rfl ?_
          refine xe_exit_then ?_
          refine xe_loop_exit ?_
          refine xe_exit_same ?_
          refine xe_then ?_
          refine x_r [(4, .new 94), (5, .new 95)] [9, 10, 11, 12] [95] [slLI true v_1, I (i - 1), I (j - 1), .arr 95] [some (.arr 2 (back.length + 1) (catF back.length (fPair back) (litF [I (i - 1), I (j - 1)] 2)))] [(back.length + 1) * 16 ≤ 140737488355328] ⟨(by omega), trivial⟩ ?_
          refine xe_block 1 ?_
          refine xe_weak [(39, 95)] (T := [(9, slLI true v_1), (10, I (i - 1)), (11, I (j - 1)), (12, .arr 39)]) (O := [(39, .arr 2 ((back ++ [(Pair.mk (i - 1) (j - 1))]).length) (fPair (back ++ [(Pair.mk (i - 1) (j - 1))])))]) rfl (⟨.inl rfl, .inl rfl, .inl rfl, .inl rfl, trivial⟩) (⟨.inr ⟨rfl, (by first | rfl | (simp; done) | (simp; omega) | omega), fun i_ hi_ => .inl (cat_snoc (enc := cPair) (xs := back) rfl i_ hi_)⟩, trivial⟩) (xe_again ((i - 1), (j - 1), (back ++ [(Pair.mk (i - 1) (j - 1))])) rfl (show (0 ≤ (i - 1) ∧ (i - 1) < (a.length : Int)) ∧ (0 ≤ (j - 1) ∧ (j - 1) < (b.length : Int)) ∧ (inBd band (i - 1).toNat (j - 1).toNat) ∧ ((i - 1) + (j - 1) + ((back ++ [(Pair.mk (i - 1) (j - 1))]).length : Int) ≤ (a.length : Int) + (b.length : Int) - 1) ∧ ((back ++ [(Pair.mk (i - 1) (j - 1))]) ++ (bk a b band (a.length + b.length - (back ++ [(Pair.mk (i - 1) (j - 1))]).length) (i - 1).toNat (j - 1).toNat).tail = tot a b band) ∧ (1 ≤ (back ++ [(Pair.mk (i - 1) (j - 1))]).length) ∧ True from ⟨(by omega), (by omega), (by exact hgo.1), (by (simp; omega)), (by exact htx), (by (simp)), trivial⟩) (by first | (show (((i - 1) + (j - 1)).toNat : Nat) < (i + j).toNat; omega) | (dsimp only; omega)))
         refine x_r [(3, .dec true), (8, .dec true), (25, .dec false)] [9, 10, 11, 12, 13, 15, 50, 51, 80] [15, 39] [slLI true v_1, I i, I j, .arr 39, I (lb3 v_1 i j), .ref 15 0, .agg [I 1, I 1, I 1, I 0, I 0, I 1], I 0, Bv false] [some (.box [I 1, I 1]), some (.arr 2 back.length (fPair back))] [(0 : Int) ≤ 0 ∧ 0 < (2 : Int), 1 ≤ i, (0 : Int) ≤ 1 ∧ 1 < (2 : Int), 1 ≤ j, (0 : Int) ≤ 0 ∧ 0 < (2 : Int), inR .i64 (i - 1), (0 : Int) ≤ (i - 1) ∧ (i - 1) < (v_1.length : Int), (0 : Int) ≤ 1 ∧ 1 < (2 : Int), inR .i64 (j - 1), (0 : Int) ≤ (j - 1) ∧ (j - 1) < (((at_ v_1 ((i - 1).toNat)).length) : Int), ¬ ((at_ (at_ v_1 ((i - 1).toNat)) ((j - 1).toNat)) = (lb3 v_1 i j))] ⟨⟨by decide, by decide⟩, h12, ⟨by decide, by decide⟩, h13, ⟨by decide, by decide⟩, (inR_i64 (by omega) (by omega)), ⟨(by omega), (by omega)⟩, ⟨by decide, by decide⟩, (inR_i64 (by omega) (by omega)), ⟨(by omega), (by omega)⟩, h14, trivial⟩ ?_
         refine xe_then ?_
         refine x_false rfl ?_
         refine x_skip ?_
         refine xe_block 3 ?_
         refine xe_then ?_
         refine x_r [] [9, 10, 11, 12, 13, 50, 51] [39] [slLI true v_1, I i, I j, .arr 39, I (lb3 v_1 i j), .agg [I 1, I 1, I 1, I 0, I 0, I 1], I (0 + 1)] [some (.arr 2 back.length (fPair back))] [inR .i64 (0 + 1)] ⟨(inR_i64 (by omega) (by omega)), trivial⟩ ?_
         exact xe_again (i, j, (0 + 1)) rfl (show (0 ≤ (0 + 1) ∧ (0 + 1) ≤ 3) ∧ (i = i ∧ j = j) ∧ (1 ≤ (0 + 1) → ¬ (1 ≤ i ∧ 1 ≤ j ∧ at_ (at_ v_1 (i - 1).toNat) (j - 1).toNat = lb3 v_1 i j)) ∧ (2 ≤ (0 + 1) → ¬ (1 ≤ i ∧ at_ (at_ v_1 (i - 1).toNat) (j - 0).toNat = lb3 v_1 i j)) ∧ (3 ≤ (0 + 1) → False) ∧ True from ⟨(by omega), (by exact ⟨rfl, rfl⟩), (by first | exact fun _ => hno1 (by omega) | exact fun _ q => absurd q.1 (by assumption) | exact fun _ q => absurd q.2.1 (by assumption) | exact fun _ q => absurd q.2.2 (by assumption)), (by first | exact fun q => absurd q (by decide) | exact fun _ => hno2 (by omega) | exact fun _ q => absurd q.1 (by assumption) | exact fun _ q => absurd q.2 (by assumption)), (by first | exact fun q => absurd q (by decide) | exact fun _ => absurd (nx_3 hab htb (by omega) (by omega) hbb h00 (hno1 (by omega)) (hno2 (by omega))).2.1 (by assumption) | exact fun _ => absurd (nx_3 hab htb (by omega) (by omega) hbb h00 (hno1 (by omega)) (hno2 (by omega))).2.2 (by assumption)), trivial⟩) (by first | (show (((3 : Int) - (0 + 1)).toNat : Nat) < ((3 : Int) - t51).toNat; omega) | (dsimp only; omega))
        refine x_r [(3, .dec true), (8, .dec false)] [9, 10, 11, 12, 13, 15, 50, 51, 80] [15, 39] [slLI true v_1, I i, I j, .arr 39, I (lb3 v_1 i j), .ref 15 0, .agg [I 1, I 1, I 1, I 0, I 0, I 1], I 0, Bv false] [some (.box [I 1, I 1]), some (.arr 2 back.length (fPair back))] [(0 : Int) ≤ 0 ∧ 0 < (2 : Int), 1 ≤ i, (0 : Int) ≤ 1 ∧ 1 < (2 : Int), ¬ (1 ≤ j)] ⟨⟨by decide, by decide⟩, h12, ⟨by decide, by decide⟩, h13, trivial⟩ ?_
        refine xe_then ?_
        refine x_false rfl ?_
        refine x_skip ?_
        refine xe_block 3 ?_
        refine xe_then ?_
        refine x_r [] [9, 10, 11, 12, 13, 50, 51] [39] [slLI true v_1, I i, I j, .arr 39, I (lb3 v_1 i j), .agg [I 1, I 1, I 1, I 0, I 0, I 1], I (0 + 1)] [some (.arr 2 back.length (fPair back))] [inR .i64 (0 + 1)] ⟨(inR_i64 (by omega) (by omega)), trivial⟩ ?_
        exact xe_again (i, j, (0 + 1)) rfl (show (0 ≤ (0 + 1) ∧ (0 + 1) ≤ 3) ∧ (i = i ∧ j = j) ∧ (1 ≤ (0 + 1) → ¬ (1 ≤ i ∧ 1 ≤ j ∧ at_ (at_ v_1 (i - 1).toNat) (j - 1).toNat = lb3 v_1 i j)) ∧ (2 ≤ (0 + 1) → ¬ (1 ≤ i ∧ at_ (at_ v_1 (i - 1).toNat) (j - 0).toNat = lb3 v_1 i j)) ∧ (3 ≤ (0 + 1) → False) ∧ True from ⟨(by omega), (by exact ⟨rfl, rfl⟩), (by first | exact fun _ => hno1 (by omega) | exact fun _ q => absurd q.1 (by assumption) | exact fun _ q => absurd q.2.1 (by assumption) | exact fun _ q => absurd q.2.2 (by assumption)), (by first | exact fun q => absurd q (by decide) | exact fun _ => hno2 (by omega) | exact fun _ q => absurd q.1 (by assumption) | exact fun _ q => absurd q.2 (by assumption)), (by first | exact fun q => absurd q (by decide) | exact fun _ => absurd (nx_3 hab htb (by omega) (by omega) hbb h00 (hno1 (by omega)) (hno2 (by omega))).2.1 (by assumption) | exact fun _ => absurd (nx_3 hab htb (by omega) (by omega) hbb h00 (hno1 (by omega)) (hno2 (by omega))).2.2 (by assumption)), trivial⟩) (by first | (show (((3 : Int) - (0 + 1)).toNat : Nat) < ((3 : Int) - t51).toNat; omega) | (dsimp only; omega))
       refine x_r [(3, .dec false)] [9, 10, 11, 12, 13, 15, 50, 51, 80] [15, 39] [slLI true v_1, I i, I j, .arr 39, I (lb3 v_1 i j), .ref 15 0, .agg [I 1, I 1, I 1, I 0, I 0, I 1], I 0, Bv false] [some (.box [I 1, I 1]), some (.arr 2 back.length (fPair back))] [(0 : Int) ≤ 0 ∧ 0 < (2 : Int), ¬ (1 ≤ i)] ⟨⟨by decide, by decide⟩, h12, trivial⟩ ?_
       refine xe_then ?_
       refine x_false rfl ?_
       refine x_skip ?_
       refine xe_block 3 ?_
       refine xe_then ?_
       refine x_r [] [9, 10, 11, 12, 13, 50, 51] [39] [slLI true v_1, I i, I j, .arr 39, I (lb3 v_1 i j), .agg [I 1, I 1, I 1, I 0, I 0, I 1], I (0 + 1)] [some (.arr 2 back.length (fPair back))] [inR .i64 (0 + 1)] ⟨(inR_i64 (by omega) (by omega)), trivial⟩ ?_
       exact xe_again (i, j, (0 + 1)) rfl (show (0 ≤ (0 + 1) ∧ (0 + 1) ≤ 3) ∧ (i = i ∧ j = j) ∧ (1 ≤ (0 + 1) → ¬ (1 ≤ i ∧ 1 ≤ j ∧ at_ (at_ v_1 (i - 1).toNat) (j - 1).toNat = lb3 v_1 i j)) ∧ (2 ≤ (0 + 1) → ¬ (1 ≤ i ∧ at_ (at_ v_1 (i - 1).toNat) (j - 0).toNat = lb3 v_1 i j)) ∧ (3 ≤ (0 + 1) → False) ∧ True from ⟨(by omega), (by exact ⟨rfl, rfl⟩), (by first | exact fun _ => hno1 (by omega) | exact fun _ q => absurd q.1 (by assumption) | exact fun _ q => absurd q.2.1 (by assumption) | exact fun _ q => absurd q.2.2 (by assumption)), (by first | exact fun q => absurd q (by decide) | exact fun _ => hno2 (by omega) | exact fun _ q => absurd q.1 (by assumption) | exact fun _ q => absurd q.2 (by assumption)), (by first | exact fun q => absurd q (by decide) | exact fun _ => absurd (nx_3 hab htb (by omega) (by omega) hbb h00 (hno1 (by omega)) (hno2 (by omega))).2.1 (by assumption) | exact fun _ => absurd (nx_3 hab htb (by omega) (by omega) hbb h00 (hno1 (by omega)) (hno2 (by omega))).2.2 (by assumption)), trivial⟩) (by first | (show (((3 : Int) - (0 + 1)).toNat : Nat) < ((3 : Int) - t51).toNat; omega) | (dsimp only; omega))
      ·refine x_r [(0, .dec true)] [9, 10, 11, 12, 13, 50, 51, 52] [39] [slLI true v_1, I i, I j, .arr 39, I (lb3 v_1 i j), .agg [I 1, I 1, I 1, I 0, I 0, I 1], I 1, Bv true] [some (.arr 2 back.length (fPair back))] [(1 : Int) < 3] ⟨(by decide), trivial⟩ ?_
       refine xe_then ?_
       refine x_seq ?_
       refine x_true rfl ?_
       refine x_skip ?_
       refine xe_then ?_
       refine x_seq ?_
       refine x_block ?_
       refine xR [(1, .new 15)] [9, 10, 11, 12, 13, 15, 50, 51] [15, 39] [slLI true v_1, I i, I j, .arr 39, I (lb3 v_1 i j), .ref 15 0, .agg [I 1, I 1, I 1, I 0, I 0, I 1], I 1] [some (.box [I 1, I 0]), some (.arr 2 back.length (fPair back))] [(0 : Int) ≤ 1 ∧ 1 < (3 : Int)] ⟨⟨by decide, by decide⟩, trivial⟩ ?_
       refine x_seq ?_
       by_cases h15 : 1 ≤ i
       ·by_cases h16 : (at_ (at_ v_1 ((i - 1).toNat)) ((j - 0).toNat)) = (lb3 v_1 i j)
        ·have hnx := nx_2 hab htb (by omega) (by omega) hbb h00 (hno1 (by omega)) ⟨by omega, h16⟩
         have hgo := (nx_go hab (by omega) (by omega) hbb h00 hnx (s := 0)).1
         have hr1 := hnx.1
         have hr2 := hnx.2.1
         have htx := tot_next hab (by omega) (by omega) hbb h00 hnx hsm htt
         refine x_r [(3, .dec true), (8, .dec true), (25, .dec true)] [9, 10, 11, 12, 13, 15, 50, 51, 80] [15, 39] [slLI true v_1, I i, I j, .arr 39, I (lb3 v_1 i j), .ref 15 0, .agg [I 1, I 1, I 1, I 0, I 0, I 1], I 1, Bv true] [some (.box [I 1, I 0]), some (.arr 2 back.length (fPair back))] [(0 : Int) ≤ 0 ∧ 0 < (2 : Int), 1 ≤ i, (0 : Int) ≤ 1 ∧ 1 < (2 : Int), 0 ≤ j, (0 : Int) ≤ 0 ∧ 0 < (2 : Int), inR .i64 (i - 1), (0 : Int) ≤ (i - 1) ∧ (i - 1) < (v_1.length : Int), (0 : Int) ≤ 1 ∧ 1 < (2 : Int), inR .i64 (j - 0), (0 : Int) ≤ (j - 0) ∧ (j - 0) < (((at_ v_1 ((i - 1).toNat)).length) : Int), (at_ (at_ v_1 ((i - 1).toNat)) ((j - 0).toNat)) = (lb3 v_1 i j)] ⟨⟨by decide, by decide⟩, h15, ⟨by decide, by decide⟩, (by omega), ⟨by decide, by decide⟩, (inR_i64 (by omega) (by omega)), ⟨(by omega), (by omega)⟩, ⟨by decide, by decide⟩, (inR_i64 (by omega) (by omega)), ⟨(by omega), (by omega)⟩, h16, trivial⟩ ?_
         refine xe_then ?_
         refine x_true rfl ?_
         refine xR [] [9, 10, 11, 12] [39] [slLI true v_1, I (i - 1), I (j - 0), .arr 39] [some (.arr 2 back.length (fPair back))] [(0 : Int) ≤ 0 ∧ 0 < (2 : Int), inR .i64 (i - 1), (0 : Int) ≤ 1 ∧ 1 < (2 : Int), inR .i64 (j - 0)] ⟨⟨by decide, by decide⟩, (inR_i64 (by omega) (by omega)), ⟨by decide, by decide⟩, (inR_i64 (by omega) (by omega)), trivial⟩ ?_
         refine x_exit ?_
         refine xe_exit_other rfl ?_
         refine xe_exit_then ?_
         refine xe_loop_exit ?_
         refine xe_exit_same ?_
         refine xe_then ?_
         refine x_r [(4, .new 94), (5, .new 95)] [9, 10, 11, 12] [95] [slLI true v_1, I (i - 1), I (j - 0), .arr 95] [some (.arr 2 (back.length + 1) (catF back.length (fPair back) (litF [I (i - 1), I (j - 0)] 2)))] [(back.length + 1) * 16 ≤ 140737488355328] ⟨(by omega), trivial⟩ ?_
         refine xe_block 1 ?_
         refine xe_weak [(39, 95)] (T := [(9, slLI true v_1), (10, I (i - 1)), (11, I (j - 0)), (12, .arr 39)]) (O := [(39, .arr 2 ((back ++ [(Pair.mk (i - 1) (j - 0))]).length) (fPair (back ++ [(Pair.mk (i - 1) (j - 0))])))]) rfl (⟨.inl rfl, .inl rfl, .inl rfl, .inl rfl, trivial⟩) (⟨.inr ⟨rfl, (by first | rfl | (simp; done) | (simp; omega) | omega), fun i_ hi_ => .inl (cat_snoc (enc := cPair) (xs := back) rfl i_ hi_)⟩, trivial⟩) (xe_again ((i - 1), (j - 0), (back ++ [(Pair.mk (i - 1) (j - 0))])) rfl (show (0 ≤ (i - 1) ∧ (i - 1) < (a.length : Int)) ∧ (0 ≤ (j - 0) ∧ (j - 0) < (b.length : Int)) ∧ (inBd band (i - 1).toNat (j - 0).toNat) ∧ ((i - 1) + (j - 0) + ((back ++ [(Pair.mk (i - 1) (j - 0))]).length : Int) ≤ (a.length : Int) + (b.length : Int) - 1) ∧ ((back ++ [(Pair.mk (i - 1) (j - 0))]) ++ (bk a b band (a.length + b.length - (back ++ [(Pair.mk (i - 1) (j - 0))]).length) (i - 1).toNat (j - 0).toNat).tail = tot a b band) ∧ (1 ≤ (back ++ [(Pair.mk (i - 1) (j - 0))]).length) ∧ True from ⟨(by omega), (by omega), (by exact hgo.1), (by (simp; omega)), (by exact htx), (by (simp)), trivial⟩) (by first | (show (((i - 1) + (j - 0)).toNat : Nat) < (i + j).toNat; omega) | (dsimp only; omega)))
        refine x_r [(3, .dec true), (8, .dec true), (25, .dec false)] [9, 10, 11, 12, 13, 15, 50, 51, 80] [15, 39] [slLI true v_1, I i, I j, .arr 39, I (lb3 v_1 i j), .ref 15 0, .agg [I 1, I 1, I 1, I 0, I 0, I 1], I 1, Bv false] [some (.box [I 1, I 0]), some (.arr 2 back.length (fPair back))] [(0 : Int) ≤ 0 ∧ 0 < (2 : Int), 1 ≤ i, (0 : Int) ≤ 1 ∧ 1 < (2 : Int), 0 ≤ j, (0 : Int) ≤ 0 ∧ 0 < (2 : Int), inR .i64 (i - 1), (0 : Int) ≤ (i - 1) ∧ (i - 1) < (v_1.length : Int), (0 : Int) ≤ 1 ∧ 1 < (2 : Int), inR .i64 (j - 0), (0 : Int) ≤ (j - 0) ∧ (j - 0) < (((at_ v_1 ((i - 1).toNat)).length) : Int), ¬ ((at_ (at_ v_1 ((i - 1).toNat)) ((j - 0).toNat)) = (lb3 v_1 i j))] ⟨⟨by decide, by decide⟩, h15, ⟨by decide, by decide⟩, (by omega), ⟨by decide, by decide⟩, (inR_i64 (by omega) (by omega)), ⟨(by omega), (by omega)⟩, ⟨by decide, by decide⟩, (inR_i64 (by omega) (by omega)), ⟨(by omega), (by omega)⟩, h16, trivial⟩ ?_
        refine xe_then ?_
        refine x_false rfl ?_
        refine x_skip ?_
        refine xe_block 3 ?_
        refine xe_then ?_
        refine x_r [] [9, 10, 11, 12, 13, 50, 51] [39] [slLI true v_1, I i, I j, .arr 39, I (lb3 v_1 i j), .agg [I 1, I 1, I 1, I 0, I 0, I 1], I (1 + 1)] [some (.arr 2 back.length (fPair back))] [inR .i64 (1 + 1)] ⟨(inR_i64 (by omega) (by omega)), trivial⟩ ?_
        exact xe_again (i, j, (1 + 1)) rfl (show (0 ≤ (1 + 1) ∧ (1 + 1) ≤ 3) ∧ (i = i ∧ j = j) ∧ (1 ≤ (1 + 1) → ¬ (1 ≤ i ∧ 1 ≤ j ∧ at_ (at_ v_1 (i - 1).toNat) (j - 1).toNat = lb3 v_1 i j)) ∧ (2 ≤ (1 + 1) → ¬ (1 ≤ i ∧ at_ (at_ v_1 (i - 1).toNat) (j - 0).toNat = lb3 v_1 i j)) ∧ (3 ≤ (1 + 1) → False) ∧ True from ⟨(by omega), (by exact ⟨rfl, rfl⟩), (by first | exact fun _ => hno1 (by omega) | exact fun _ q => absurd q.1 (by assumption) | exact fun _ q => absurd q.2.1 (by assumption) | exact fun _ q => absurd q.2.2 (by assumption)), (by first | exact fun q => absurd q (by decide) | exact fun _ => hno2 (by omega) | exact fun _ q => absurd q.1 (by assumption) | exact fun _ q => absurd q.2 (by assumption)), (by first | exact fun q => absurd q (by decide) | exact fun _ => absurd (nx_3 hab htb (by omega) (by omega) hbb h00 (hno1 (by omega)) (hno2 (by omega))).2.1 (by assumption) | exact fun _ => absurd (nx_3 hab htb (by omega) (by omega) hbb h00 (hno1 (by omega)) (hno2 (by omega))).2.2 (by assumption)), trivial⟩) (by first | (show (((3 : Int) - (1 + 1)).toNat : Nat) < ((3 : Int) - t51).toNat; omega) | (dsimp only; omega))
       refine x_r [(3, .dec false)] [9, 10, 11, 12, 13, 15, 50, 51, 80] [15, 39] [slLI true v_1, I i, I j, .arr 39, I (lb3 v_1 i j), .ref 15 0, .agg [I 1, I 1, I 1, I 0, I 0, I 1], I 1, Bv false] [some (.box [I 1, I 0]), some (.arr 2 back.length (fPair back))] [(0 : Int) ≤ 0 ∧ 0 < (2 : Int), ¬ (1 ≤ i)] ⟨⟨by decide, by decide⟩, h15, trivial⟩ ?_
       refine xe_then ?_
       refine x_false rfl ?_
       refine x_skip ?_
       refine xe_block 3 ?_
       refine xe_then ?_
       refine x_r [] [9, 10, 11, 12, 13, 50, 51] [39] [slLI true v_1, I i, I j, .arr 39, I (lb3 v_1 i j), .agg [I 1, I 1, I 1, I 0, I 0, I 1], I (1 + 1)] [some (.arr 2 back.length (fPair back))] [inR .i64 (1 + 1)] ⟨(inR_i64 (by omega) (by omega)), trivial⟩ ?_
       exact xe_again (i, j, (1 + 1)) rfl (show (0 ≤ (1 + 1) ∧ (1 + 1) ≤ 3) ∧ (i = i ∧ j = j) ∧ (1 ≤ (1 + 1) → ¬ (1 ≤ i ∧ 1 ≤ j ∧ at_ (at_ v_1 (i - 1).toNat) (j - 1).toNat = lb3 v_1 i j)) ∧ (2 ≤ (1 + 1) → ¬ (1 ≤ i ∧ at_ (at_ v_1 (i - 1).toNat) (j - 0).toNat = lb3 v_1 i j)) ∧ (3 ≤ (1 + 1) → False) ∧ True from ⟨(by omega), (by exact ⟨rfl, rfl⟩), (by first | exact fun _ => hno1 (by omega) | exact fun _ q => absurd q.1 (by assumption) | exact fun _ q => absurd q.2.1 (by assumption) | exact fun _ q => absurd q.2.2 (by assumption)), (by first | exact fun q => absurd q (by decide) | exact fun _ => hno2 (by omega) | exact fun _ q => absurd q.1 (by assumption) | exact fun _ q => absurd q.2 (by assumption)), (by first | exact fun q => absurd q (by decide) | exact fun _ => absurd (nx_3 hab htb (by omega) (by omega) hbb h00 (hno1 (by omega)) (hno2 (by omega))).2.1 (by assumption) | exact fun _ => absurd (nx_3 hab htb (by omega) (by omega) hbb h00 (hno1 (by omega)) (hno2 (by omega))).2.2 (by assumption)), trivial⟩) (by first | (show (((3 : Int) - (1 + 1)).toNat : Nat) < ((3 : Int) - t51).toNat; omega) | (dsimp only; omega))
      ·refine x_r [(0, .dec true)] [9, 10, 11, 12, 13, 50, 51, 52] [39] [slLI true v_1, I i, I j, .arr 39, I (lb3 v_1 i j), .agg [I 1, I 1, I 1, I 0, I 0, I 1], I 2, Bv true] [some (.arr 2 back.length (fPair back))] [(2 : Int) < 3] ⟨(by decide), trivial⟩ ?_
       refine xe_then ?_
       refine x_seq ?_
       refine x_true rfl ?_
       refine x_skip ?_
       refine xe_then ?_
       refine x_seq ?_
       refine x_block ?_
       refine xR [(1, .new 15)] [9, 10, 11, 12, 13, 15, 50, 51] [15, 39] [slLI true v_1, I i, I j, .arr 39, I (lb3 v_1 i j), .ref 15 0, .agg [I 1, I 1, I 1, I 0, I 0, I 1], I 2] [some (.box [I 0, I 1]), some (.arr 2 back.length (fPair back))] [(0 : Int) ≤ 2 ∧ 2 < (3 : Int)] ⟨⟨by decide, by decide⟩, trivial⟩ ?_
       refine x_seq ?_
       by_cases h17 : 1 ≤ j
       ·by_cases h18 : (at_ (at_ v_1 ((i - 0).toNat)) ((j - 1).toNat)) = (lb3 v_1 i j)
        ·have hnx := (nx_3 hab htb (by omega) (by omega) hbb h00 (hno1 (by omega)) (hno2 (by omega))).1
         have hgo := (nx_go hab (by omega) (by omega) hbb h00 hnx (s := 0)).1
         have hr1 := hnx.1
         have hr2 := hnx.2.1
         have htx := tot_next hab (by omega) (by omega) hbb h00 hnx hsm htt
         refine x_r [(3, .dec true), (8, .dec true), (25, .dec true)] [9, 10, 11, 12, 13, 15, 50, 51, 80] [15, 39] [slLI true v_1, I i, I j, .arr 39, I (lb3 v_1 i j), .ref 15 0, .agg [I 1, I 1, I 1, I 0, I 0, I 1], I 2, Bv true] [some (.box [I 0, I 1]), some (.arr 2 back.length (fPair back))] [(0 : Int) ≤ 0 ∧ 0 < (2 : Int), 0 ≤ i, (0 : Int) ≤ 1 ∧ 1 < (2 : Int), 1 ≤ j, (0 : Int) ≤ 0 ∧ 0 < (2 : Int), inR .i64 (i - 0), (0 : Int) ≤ (i - 0) ∧ (i - 0) < (v_1.length : Int), (0 : Int) ≤ 1 ∧ 1 < (2 : Int), inR .i64 (j - 1), (0 : Int) ≤ (j - 1) ∧ (j - 1) < (((at_ v_1 ((i - 0).toNat)).length) : Int), (at_ (at_ v_1 ((i - 0).toNat)) ((j - 1).toNat)) = (lb3 v_1 i j)] ⟨⟨by decide, by decide⟩, (by omega), ⟨by decide, by decide⟩, h17, ⟨by decide, by decide⟩, (inR_i64 (by omega) (by omega)), ⟨(by omega), (by omega)⟩, ⟨by decide, by decide⟩, (inR_i64 (by omega) (by omega)), ⟨(by omega), (by omega)⟩, h18, trivial⟩ ?_
         refine xe_then ?_
         refine x_true rfl ?_
         refine xR [] [9, 10, 11, 12] [39] [slLI true v_1, I (i - 0), I (j - 1), .arr 39] [some (.arr 2 back.length (fPair back))] [(0 : Int) ≤ 0 ∧ 0 < (2 : Int), inR .i64 (i - 0), (0 : Int) ≤ 1 ∧ 1 < (2 : Int), inR .i64 (j - 1)] ⟨⟨by decide, by decide⟩, (inR_i64 (by omega) (by omega)), ⟨by decide, by decide⟩, (inR_i64 (by omega) (by omega)), trivial⟩ ?_
         refine x_exit ?_
         refine xe_exit_other rfl ?_
         refine xe_exit_then ?_
         refine xe_loop_exit ?_
         refine xe_exit_same ?_
         refine xe_then ?_
         refine x_r [(4, .new 94), (5, .new 95)] [9, 10, 11, 12] [95] [slLI true v_1, I (i - 0), I (j - 1), .arr 95] [some (.arr 2 (back.length + 1) (catF back.length (fPair back) (litF [I (i - 0), I (j - 1)] 2)))] [(back.length + 1) * 16 ≤ 140737488355328] ⟨(by omega), trivial⟩ ?_
         refine xe_block 1 ?_
         refine xe_weak [(39, 95)] (T := [(9, slLI true v_1), (10, I (i - 0)), (11, I (j - 1)), (12, .arr 39)]) (O := [(39, .arr 2 ((back ++ [(Pair.mk (i - 0) (j - 1))]).length) (fPair (back ++ [(Pair.mk (i - 0) (j - 1))])))]) rfl (⟨.inl rfl, .inl rfl, .inl rfl, .inl rfl, trivial⟩) (⟨.inr ⟨rfl, (by first | rfl | (simp; done) | (simp; omega) | omega), fun i_ hi_ => .inl (cat_snoc (enc := cPair) (xs := back) rfl i_ hi_)⟩, trivial⟩) (xe_again ((i - 0), (j - 1), (back ++ [(Pair.mk (i - 0) (j - 1))])) rfl (show (0 ≤ (i - 0) ∧ (i - 0) < (a.length : Int)) ∧ (0 ≤ (j - 1) ∧ (j - 1) < (b.length : Int)) ∧ (inBd band (i - 0).toNat (j - 1).toNat) ∧ ((i - 0) + (j - 1) + ((back ++ [(Pair.mk (i - 0) (j - 1))]).length : Int) ≤ (a.length : Int) + (b.length : Int) - 1) ∧ ((back ++ [(Pair.mk (i - 0) (j - 1))]) ++ (bk a b band (a.length + b.length - (back ++ [(Pair.mk (i - 0) (j - 1))]).length) (i - 0).toNat (j - 1).toNat).tail = tot a b band) ∧ (1 ≤ (back ++ [(Pair.mk (i - 0) (j - 1))]).length) ∧ True from ⟨(by omega), (by omega), (by exact hgo.1), (by (simp; omega)), (by exact htx), (by (simp)), trivial⟩) (by first | (show (((i - 0) + (j - 1)).toNat : Nat) < (i + j).toNat; omega) | (dsimp only; omega)))
        refine x_r [(3, .dec true), (8, .dec true), (25, .dec false)] [9, 10, 11, 12, 13, 15, 50, 51, 80] [15, 39] [slLI true v_1, I i, I j, .arr 39, I (lb3 v_1 i j), .ref 15 0, .agg [I 1, I 1, I 1, I 0, I 0, I 1], I 2, Bv false] [some (.box [I 0, I 1]), some (.arr 2 back.length (fPair back))] [(0 : Int) ≤ 0 ∧ 0 < (2 : Int), 0 ≤ i, (0 : Int) ≤ 1 ∧ 1 < (2 : Int), 1 ≤ j, (0 : Int) ≤ 0 ∧ 0 < (2 : Int), inR .i64 (i - 0), (0 : Int) ≤ (i - 0) ∧ (i - 0) < (v_1.length : Int), (0 : Int) ≤ 1 ∧ 1 < (2 : Int), inR .i64 (j - 1), (0 : Int) ≤ (j - 1) ∧ (j - 1) < (((at_ v_1 ((i - 0).toNat)).length) : Int), ¬ ((at_ (at_ v_1 ((i - 0).toNat)) ((j - 1).toNat)) = (lb3 v_1 i j))] ⟨⟨by decide, by decide⟩, (by omega), ⟨by decide, by decide⟩, h17, ⟨by decide, by decide⟩, (inR_i64 (by omega) (by omega)), ⟨(by omega), (by omega)⟩, ⟨by decide, by decide⟩, (inR_i64 (by omega) (by omega)), ⟨(by omega), (by omega)⟩, h18, trivial⟩ ?_
        refine xe_then ?_
        refine x_false rfl ?_
        refine x_skip ?_
        refine xe_block 3 ?_
        refine xe_then ?_
        refine x_r [] [9, 10, 11, 12, 13, 50, 51] [39] [slLI true v_1, I i, I j, .arr 39, I (lb3 v_1 i j), .agg [I 1, I 1, I 1, I 0, I 0, I 1], I (2 + 1)] [some (.arr 2 back.length (fPair back))] [inR .i64 (2 + 1)] ⟨(inR_i64 (by omega) (by omega)), trivial⟩ ?_
        exact xe_again (i, j, (2 + 1)) rfl (show (0 ≤ (2 + 1) ∧ (2 + 1) ≤ 3) ∧ (i = i ∧ j = j) ∧ (1 ≤ (2 + 1) → ¬ (1 ≤ i ∧ 1 ≤ j ∧ at_ (at_ v_1 (i - 1).toNat) (j - 1).toNat = lb3 v_1 i j)) ∧ (2 ≤ (2 + 1) → ¬ (1 ≤ i ∧ at_ (at_ v_1 (i - 1).toNat) (j - 0).toNat = lb3 v_1 i j)) ∧ (3 ≤ (2 + 1) → False) ∧ True from ⟨(by omega), (by exact ⟨rfl, rfl⟩), (by first | exact fun _ => hno1 (by omega) | exact fun _ q => absurd q.1 (by assumption) | exact fun _ q => absurd q.2.1 (by assumption) | exact fun _ q => absurd q.2.2 (by assumption)), (by first | exact fun q => absurd q (by decide) | exact fun _ => hno2 (by omega) | exact fun _ q => absurd q.1 (by assumption) | exact fun _ q => absurd q.2 (by assumption)), (by first | exact fun q => absurd q (by decide) | exact fun _ => absurd (nx_3 hab htb (by omega) (by omega) hbb h00 (hno1 (by omega)) (hno2 (by omega))).2.1 (by assumption) | exact fun _ => absurd (nx_3 hab htb (by omega) (by omega) hbb h00 (hno1 (by omega)) (hno2 (by omega))).2.2 (by assumption)), trivial⟩) (by first | (show (((3 : Int) - (2 + 1)).toNat : Nat) < ((3 : Int) - t51).toNat; omega) | (dsimp only; omega))
       refine x_r [(3, .dec true), (8, .dec false)] [9, 10, 11, 12, 13, 15, 50, 51, 80] [15, 39] [slLI true v_1, I i, I j, .arr 39, I (lb3 v_1 i j), .ref 15 0, .agg [I 1, I 1, I 1, I 0, I 0, I 1], I 2, Bv false] [some (.box [I 0, I 1]), some (.arr 2 back.length (fPair back))] [(0 : Int) ≤ 0 ∧ 0 < (2 : Int), 0 ≤ i, (0 : Int) ≤ 1 ∧ 1 < (2 : Int), ¬ (1 ≤ j)] ⟨⟨by decide, by decide⟩, (by omega), ⟨by decide, by decide⟩, h17, trivial⟩ ?_
       refine xe_then ?_
       refine x_false rfl ?_
       refine x_skip ?_
       refine xe_block 3 ?_
       refine xe_then ?_
       refine x_r [] [9, 10, 11, 12, 13, 50, 51] [39] [slLI true v_1, I i, I j, .arr 39, I (lb3 v_1 i j), .agg [I 1, I 1, I 1, I 0, I 0, I 1], I (2 + 1)] [some (.arr 2 back.length (fPair back))] [inR .i64 (2 + 1)] ⟨(inR_i64 (by omega) (by omega)), trivial⟩ ?_
       exact xe_again (i, j, (2 + 1)) rfl (show (0 ≤ (2 + 1) ∧ (2 + 1) ≤ 3) ∧ (i = i ∧ j = j) ∧ (1 ≤ (2 + 1) → ¬ (1 ≤ i ∧ 1 ≤ j ∧ at_ (at_ v_1 (i - 1).toNat) (j - 1).toNat = lb3 v_1 i j)) ∧ (2 ≤ (2 + 1) → ¬ (1 ≤ i ∧ at_ (at_ v_1 (i - 1).toNat) (j - 0).toNat = lb3 v_1 i j)) ∧ (3 ≤ (2 + 1) → False) ∧ True from ⟨(by omega), (by exact ⟨rfl, rfl⟩), (by first | exact fun _ => hno1 (by omega) | exact fun _ q => absurd q.1 (by assumption) | exact fun _ q => absurd q.2.1 (by assumption) | exact fun _ q => absurd q.2.2 (by assumption)), (by first | exact fun q => absurd q (by decide) | exact fun _ => hno2 (by omega) | exact fun _ q => absurd q.1 (by assumption) | exact fun _ q => absurd q.2 (by assumption)), (by first | exact fun q => absurd q (by decide) | exact fun _ => absurd (nx_3 hab htb (by omega) (by omega) hbb h00 (hno1 (by omega)) (hno2 (by omega))).2.1 (by assumption) | exact fun _ => absurd (nx_3 hab htb (by omega) (by omega) hbb h00 (hno1 (by omega)) (hno2 (by omega))).2.2 (by assumption)), trivial⟩) (by first | (show (((3 : Int) - (2 + 1)).toNat : Nat) < ((3 : Int) - t51).toNat; omega) | (dsimp only; omega))
     exact (hno3 (by omega)).elim
    have hfin := tot_end (by omega) htt
    have htn := tot_len a b band
    rw [← hfin] at htn
    refine x_r [(1, .dec false), (4, .dec false)] [9, 10, 11, 12, 45] [39] [slLI true v_1, I i, I j, .arr 39, Bv false] [some (.arr 2 back.length (fPair back))] [¬ (0 < i), ¬ (0 < j)] ⟨h1, h10, trivial⟩ ?_
    refine xe_then ?_
    refine x_false rfl ?_
    refine x_exit ?_
    refine xe_exit_then ?_
    refine xe_loop_exit ?_
    refine xe_exit_same ?_
    refine xe_then ?_
    refine xR [(2, .new 98)] [12, 16] [39, 98] [.arr 39, .arr 98] [some (.arr 2 back.length (fPair back)), some (.arr 2 ((back.length : Int).toNat) (fun _ => [I 0, I 0]))] [(0 : Int) ≤ (back.length : Int) ∧ ((back.length : Int) : Int) ≤ (back.length : Int) ∧ (16 : Int) * (back.length : Int) ≤ 281474976710656 ∧ (back.length : Int) ≤ 9223372036854775807] ⟨⟨(by omega), (by omega), (by omega), (by omega)⟩, trivial⟩ ?_
    refine x_seq ?_
    refine xR [] [12, 16, 99, 100, 101] [39, 98] [.arr 39, .arr 98, .arr 39, I (back.length : Int), I 0] [some (.arr 2 back.length (fPair back)), some (.arr 2 ((back.length : Int).toNat) (fun _ => [I 0, I 0]))] [] trivial ?_
    refine x_block ?_
    refine x_weak [] (T := [(12, .arr 39), (16, .arr 98), (99, .arr 39), (100, I (back.length : Int)), (101, I 0)]) (O := [(39, .arr 2 back.length (fPair back)), (98, .arr 2 ((List.replicate ((back.length : Int).toNat) (Pair.mk 0 0)).length) (fPair (List.replicate ((back.length : Int).toNat) (Pair.mk 0 0))))]) rfl (⟨.inl rfl, .inl rfl, .inl rfl, .inl rfl, .inl rfl, trivial⟩) (⟨.inl rfl, .inr ⟨rfl, (by first | rfl | (simp; done) | (simp; omega) | omega), fun i_ hi_ => .inl (const_enc (enc := cPair) rfl i_ hi_)⟩, trivial⟩) ?_
    refine x_loop (X := Int × (List Pair)) (fun x => mkS [(12, .arr 39), (16, .arr 98), (99, .arr 39), (100, I (back.length : Int)), (101, I x.1)] [(39, .arr 2 back.length (fPair back)), (98, .arr 2 x.2.length (fPair x.2))]) (fun x => (0 ≤ x.1 ∧ x.1 ≤ (back.length : Int)) ∧ (x.2.length = back.length ∧ ∀ q : Nat, (q : Int) < x.1 → at_ x.2 (back.length - 1 - q) = at_ back q) ∧ True) (fun x => ((back.length : Int) - x.1).toNat) (0, (List.replicate ((back.length : Int).toNat) (Pair.mk 0 0))) rfl (show (0 ≤ (0 : Int) ∧ (0 : Int) ≤ (back.length : Int)) ∧ ((List.replicate ((back.length : Int).toNat) (Pair.mk 0 0)).length = back.length ∧ ∀ q : Nat, (q : Int) < (0 : Int) → at_ (List.replicate ((back.length : Int).toNat) (Pair.mk 0 0)) (back.length - 1 - q) = at_ back q) ∧ True from ⟨(by omega), (by exact ⟨by simp, fun q hq => by omega⟩), trivial⟩) (fun x hI => ?_)
    obtain ⟨t101, ps⟩ := x
    obtain ⟨hk0, hrn, _⟩ : (0 ≤ t101 ∧ t101 ≤ (back.length : Int)) ∧ (ps.length = back.length ∧ ∀ q : Nat, (q : Int) < t101 → at_ ps (back.length - 1 - q) = at_ back q) ∧ True := hI
    show XW _ _ _ _ (mkS [(12, .arr 39), (16, .arr 98), (99, .arr 39), (100, I (back.length : Int)), (101, I t101)] [(39, .arr 2 back.length (fPair back)), (98, .arr 2 ps.length (fPair ps))]) _ _
    refine x_seq ?_
    by_cases h19 : t101 < (back.length : Int)
    ·have hk : t101.toNat < back.length := by omega
     refine x_r [(0, .dec true)] [12, 16, 99, 100, 101, 102] [39, 98] [.arr 39, .arr 98, .arr 39, I (back.length : Int), I t101, Bv true] [some (.arr 2 back.length (fPair back)), some (.arr 2 ps.length (fPair ps))] [t101 < (back.length : Int)] ⟨h19, trivial⟩ ?_
     refine xe_then ?_
     refine x_seq ?_
     refine x_true rfl ?_
     refine x_skip ?_
     refine xe_then ?_
     refine x_seq ?_
     refine x_block ?_
     refine xR [(3, .new 18)] [12, 16, 17, 18, 99, 100, 101] [18, 39, 98] [.arr 39, .arr 98, I t101, .ref 18 0, .arr 39, I (back.length : Int), I t101] [some (bxPair (at_ back t101.toNat)), some (.arr 2 back.length (fPair back)), some (.arr 2 ps.length (fPair ps))] [(0 : Int) ≤ t101 ∧ t101 < (back.length : Int), t101.toNat < back.length] ⟨⟨(by omega), (by omega)⟩, (by omega), trivial⟩ ?_
     refine x_r [] [12, 16, 99, 100, 101] [39, 98] [.arr 39, .arr 98, .arr 39, I (back.length : Int), I t101] [some (.arr 2 back.length (fPair back)), some (.arr 2 ps.length (fun q => bif Nat.beq q ((((back.length : Int) - 1) - t101).toNat) then [I ((at_ back t101.toNat).I), I ((at_ back t101.toNat).J)] else (fPair ps) q))] [inR .i64 ((back.length : Int) - 1), inR .i64 (((back.length : Int) - 1) - t101), (0 : Int) ≤ (((back.length : Int) - 1) - t101) ∧ (((back.length : Int) - 1) - t101) < (ps.length : Int), (((back.length : Int) - 1) - t101).toNat < ps.length] ⟨(inR_i64 (by omega) (by omega)), (inR_i64 (by omega) (by omega)), ⟨(by omega), (by omega)⟩, (by omega), trivial⟩ ?_
     refine xe_block 5 ?_
     refine xe_then ?_
     refine x_weak [] (T := [(12, .arr 39), (16, .arr 98), (99, .arr 39), (100, I (back.length : Int)), (101, I t101)]) (O := [(39, .arr 2 back.length (fPair back)), (98, .arr 2 ((ps.set ((((back.length : Int) - 1) - t101).toNat) (at_ back t101.toNat)).length) (fPair (ps.set ((((back.length : Int) - 1) - t101).toNat) (at_ back t101.toNat))))]) rfl (⟨.inl rfl, .inl rfl, .inl rfl, .inl rfl, .inl rfl, trivial⟩) (⟨.inl rfl, .inr ⟨rfl, (by first | rfl | (simp; done) | (simp; omega) | omega), fun i_ hi_ => .inl (upd_enc (enc := cPair) rfl i_ hi_)⟩, trivial⟩) ?_
     refine x_r [] [12, 16, 99, 100, 101] [39, 98] [.arr 39, .arr 98, .arr 39, I (back.length : Int), I (t101 + 1)] [some (.arr 2 back.length (fPair back)), some (.arr 2 ((ps.set ((((back.length : Int) - 1) - t101).toNat) (at_ back t101.toNat)).length) (fPair (ps.set ((((back.length : Int) - 1) - t101).toNat) (at_ back t101.toNat))))] [inR .i64 (t101 + 1)] ⟨(inR_i64 (by omega) (by omega)), trivial⟩ ?_
     exact xe_again ((t101 + 1), (ps.set ((((back.length : Int) - 1) - t101).toNat) (at_ back t101.toNat))) rfl (show (0 ≤ (t101 + 1) ∧ (t101 + 1) ≤ (back.length : Int)) ∧ ((ps.set ((((back.length : Int) - 1) - t101).toNat) (at_ back t101.toNat)).length = back.length ∧ ∀ q : Nat, (q : Int) < (t101 + 1) → at_ (ps.set ((((back.length : Int) - 1) - t101).toNat) (at_ back t101.toNat)) (back.length - 1 - q) = at_ back q) ∧ True from ⟨(by omega), (by exact rev_next hk0.1 hk hrn.1 hrn.2 (by first | rfl | (simp; done)) (by omega)), trivial⟩) (by first | (show (((back.length : Int) - (t101 + 1)).toNat : Nat) < ((back.length : Int) - t101).toNat; omega) | (dsimp only; omega))
    have hrv := rev_done (by omega) hrn.1 hrn.2
    rw [hfin] at hrv
    refine x_r [(0, .dec false)] [12, 16, 99, 100, 101, 102] [39, 98] [.arr 39, .arr 98, .arr 39, I (back.length : Int), I t101, Bv false] [some (.arr 2 back.length (fPair back)), some (.arr 2 ps.length (fPair ps))] [¬ (t101 < (back.length : Int))] ⟨h19, trivial⟩ ?_
    refine xe_then ?_
    refine x_seq ?_
    refine x_false rfl ?_
    refine x_exit ?_
    refine xe_exit_then ?_
    refine xe_loop_exit ?_
    refine xe_exit_same ?_
    refine xe_then ?_
    refine xR [] [6, 7] [98] [.arr 98, I 0] [some (.arr 2 ps.length (fPair ps))] [] trivial ?_
    refine x_ret ?_
    refine xe_end (ps, 0) (show (ps = (tot a b band).reverse) ∧ (0 = 0) ∧ (True) from ⟨(by first | exact hrv | rfl), (by first | exact hrv | rfl), trivial⟩) (trivial) (.tup [.arr 98, I 0]) (by kernel_rfl) (.inr ⟨⟨(fun _ => rfl), rfl, rfl, fun i _ => .inl rfl⟩, ⟨rfl, rfl⟩⟩) (fun _ => rfl) (fun _ => (by simp [tagged, taggedL, tagPair]))
  obtain ⟨⟨v, c⟩, ⟨hh0, hh1, _⟩, hc⟩ := hh
  exact ⟨v, c, hh0, hh1, hc⟩


-- impl.Feat]
theorem cloneT_ok (s : List Feat) (hl : s.length ≤ 100000) : Con Tryz.prog 36 [slFeat false s] true (slFeat true s) := by
  refine fn_ok (fn := Tryz.f36) (nt := 8) Tryz.func36 rfl rfl rfl rfl (by simp [taggedL, tagged, tagFeat]) fun B hB => ?_
  refine aw_lens (x := slFeat false s) 0 rfl (fun len_s => ?_)
  simp [LenOK, LenL, cFeat, fFeat, slFeat] at len_s
  refine aR [] [0] [] [slFeat false s] [] [] hB trivial ?_
  refine aw_seq ?_
  refine aR [] [0, 4] [] [slFeat false s, .nilq s.length] [] [] hB trivial ?_
  refine aw_nilq (n := s.length) rfl (fun h1 => ?_) ?_
  ·refine aR [] [2] [] [nilA] [] [] hB trivial ?_
   refine aw_ret ?_
   refine ae_ret_then ?_
   refine ae_ret hB (nilA) (by kernel_rfl) (.inr ⟨(by first | omega | simp), rfl⟩) rfl (fun _ => (tagFeat true _))
  refine aw_skip ?_
  refine ae_then ?_
  refine aR [(0, .new 5), (2, .new 7)] [2] [7] [.arr 7] [some (.arr 3 (0 + s.length) (catF 0 (litF [] 3) (fFeat s)))] [(0 + s.length) * 24 ≤ 140737488355328] hB ⟨(by omega), trivial⟩ ?_
  refine aw_ret ?_
  refine ae_ret hB (.arr 7) (by kernel_rfl) (.inr ⟨(fun _ => rfl), rfl, (by first | rfl | (simp; done) | (simp; omega) | omega), fun i_ hi_ => .inl (by first | rfl | fail)⟩) rfl (fun _ => (tagFeat true _))


-- slices.Sort[[]int64,int64]
theorem sort_ok (list : List Int) (hl : list.length < 4611686018427387904) : ∃ (list' : List Int), (list' = sortL list) ∧ CallOK Tryz.prog 106 [.arr 7201] (lookO [(7201, .arr 1 list.length (fI list))]) false (.tup []) (lookO [(7201, .arr 1 list'.length (fI list'))]) :=
  ⟨sortL list, rfl, sort_callOK (fun blk off cap zs w h1 h2 h3 => AnyG.slices_Sort_int Tryz.laysSort blk off cap zs w h1 h2 h3) (fun p cap w => AnyG.slices_Sort_int_none Tryz.laysSort p cap w) 7201 list hl⟩


-- impl.medianOf
theorem medianOf_ok (list : List Int) (hl : 1 ≤ list.length ∧ list.length ≤ 1000) : ∃ (v : Int) (list' : List Int), (v = medI list) ∧ CallOK Tryz.prog 73 [.arr 7201] (lookO [(7201, .arr 1 list.length (fI list))]) true (I v) (lookO [(7201, .arr 1 list'.length (fI list'))]) := by
  have hh : ∃ r : Int × (List Int), ((r.1 = medI list) ∧ (True)) ∧ CallOK Tryz.prog 73 [.arr 7201] (lookO [(7201, .arr 1 list.length (fI list))]) true (I r.1) (lookO [(7201, .arr 1 r.2.length (fI r.2))]) := by
    refine fn_okX (Φ := fun r : Int × (List Int) => (r.1 = medI list) ∧ (True)) [(7201, .arr 1 list.length (fI list))] (fun r => [(7201, .arr 1 r.2.length (fI r.2))]) (fn := Tryz.f73) (nt := 12) Tryz.func73 rfl rfl (args := [.arr 7201]) rfl (allcons (.inr trivial) allnil) (res := fun r => I r.1) ?_
    refine xR [] [0] [7201] [.arr 7201] [some (.arr 1 list.length (fI list))] [] trivial ?_
    refine x_seq ?_
    obtain ⟨list'_1, hx1_0, hc1⟩ := sort_ok list (by omega)
    have hsl : list'_1.length = list.length := by rw [hx1_0, sortL_len]
    refine x_r [(1, .lend [(7201, .arr 1 list.length (fI list), .arr 1 list'_1.length (fI list'_1))] [] [(true, .any)] false (.tup []))] [0] [7201] [.arr 7201] [some (.arr 1 list'_1.length (fI list'_1))] [CallOK Tryz.prog 106 [.arr 7201] (lookO [(7201, .arr 1 list.length (fI list))]) false (.tup []) (lookO [(7201, .arr 1 list'_1.length (fI list'_1))]) ∧ (((.arr 1 list.length (fI list) : Ob) = .arr 1 list.length (fI list) ∨ obLe noOb true (.arr 1 list.length (fI list)) (.arr 1 list.length (fI list))) ∧ taggedO false (.arr 1 list.length (fI list))) ∧ True] ⟨⟨hc1, ⟨.inl rfl, fun _ _ => tagcI false _⟩, trivial⟩, trivial⟩ ?_
    refine xe_then ?_
    refine xR [(4, .nn)] [2] [7201] [I (at_ list'_1 ((((list'_1.length : Int) - 1) / 2).toNat))] [some (.arr 1 list'_1.length (fI list'_1))] [inR .i64 ((list'_1.length : Int) - 1), (0 : Int) ≤ ((list'_1.length : Int) - 1) ∧ (0 : Int) < 2 ∧ inR .i64 ((list'_1.length : Int) - 1), (0 : Int) ≤ (((list'_1.length : Int) - 1) / 2) ∧ (((list'_1.length : Int) - 1) / 2) < (list'_1.length : Int), (((list'_1.length : Int) - 1) / 2).toNat < list'_1.length] ⟨(inR_i64 (by omega) (by omega)), ⟨(by omega), (by omega), (inR_i64 (by omega) (by omega))⟩, ⟨(by omega), (by omega)⟩, (by omega), trivial⟩ ?_
    refine x_ret ?_
    refine xe_end ((at_ list'_1 ((((list'_1.length : Int) - 1) / 2).toNat)), list'_1) (show ((at_ list'_1 ((((list'_1.length : Int) - 1) / 2).toNat)) = medI list) ∧ (True) from ⟨(by rw [hx1_0]; unfold medI; congr 1; rw [sortL_len]; omega), trivial⟩) (⟨.inl rfl, trivial⟩) (I (at_ list'_1 ((((list'_1.length : Int) - 1) / 2).toNat))) (by kernel_rfl) (.inl rfl) (fun _ => rfl) (fun _ => trivial)
  obtain ⟨⟨v, list'⟩, ⟨hh0, _⟩, hc⟩ := hh
  exact ⟨v, list', hh0, hc⟩


-- impl.towards
theorem towards_ok (x : Int) (m : Int) (base : Int) (share : Int) (hx : 0 ≤ x ∧ x ≤ 4095) (hm : 0 ≤ m ∧ m ≤ 4095) (hb : 0 ≤ base ∧ base ≤ 4095) (hs : 0 ≤ share ∧ share ≤ 100) : Con Tryz.prog 72 [I x, I m, I base, I share] true (I (towI x m base share)) := by
  have hq := tdiv_bd ((m - x) * share) 100
  have hml := Int.mul_le_mul_of_nonneg_right (show m - x ≤ 4095 by omega) hs.1
  have hmg := Int.mul_le_mul_of_nonneg_right (show -4095 ≤ m - x by omega) hs.1
  refine fn_ok (fn := Tryz.f72) (nt := 23) Tryz.func72 rfl rfl rfl rfl (by simp [taggedL, tagged]) fun B hB => ?_
  refine aR [] [0, 1, 2, 3] [] [I x, I m, I base, I share] [] [] hB trivial ?_
  refine aR [] [8] [] [I (min (max (x + (Int.tdiv ((m - x) * share) 100)) (base - 40)) (base + 40))] [] [inR .i64 (m - x), inR .i64 ((m - x) * share), (100 : Int) ≠ 0 ∧ inR .i64 (Int.tdiv ((m - x) * share) 100), inR .i64 (x + (Int.tdiv ((m - x) * share) 100)), inR .i64 (base - 40), inR .i64 (base + 40)] hB ⟨(inR_i64 (by omega) (by omega)), (inR_i64 (by omega) (by omega)), ⟨by omega, (inR_i64 (by omega) (by omega))⟩, (inR_i64 (by omega) (by omega)), (inR_i64 (by omega) (by omega)), (inR_i64 (by omega) (by omega)), trivial⟩ ?_
  refine aw_ret ?_
  refine ae_ret hB (I (min (max (x + (Int.tdiv ((m - x) * share) 100)) (base - 40)) (base + 40))) (by kernel_rfl) (.inl (by refine congrArg I ?_; unfold towI; first | rfl | omega)) rfl (fun _ => trivial)


-- impl.adapted
set_option maxHeartbeats 4000000 in
theorem adapted_ok (t : Trained) (sample : List Feat) (band : Int) (share : Int) (okt : okTrained' t = true) (oks : okFeats sample 72 = true) (hbd : 0 ≤ band ∧ band ≤ 72) (hnm : inBd band t.Feats.length sample.length) (hsh : 0 ≤ share ∧ share ≤ 100) (hct : t.Count < 100) : ∃ (v : Trained), (v = adpT t sample band share) ∧ Con Tryz.prog 35 [agTrained t, slFeat false sample, I band, I share] true (agTrainedT v) := by
  have oka := (okTr_iff.1 okt).2.2.1
  have okb := (okTr_iff.1 okt).2.1
  have hlen := (okTr_iff.1 okt).2.2.2.1.1
  have hcn := inB_iff.1 (okTr_iff.1 okt).2.2.2.2
  have hna := okFeats_n oka
  have hns := okFeats_n oks
  have hpl := path_bd oka oks band
  have hh : ∃ r : Trained, ((r = adpT t sample band share) ∧ (True)) ∧ CallOK Tryz.prog 35 [agTrained t, slFeat false sample, I band, I share] (lookO []) true (agTrainedT r) (lookO []) := by
    refine fn_okX (Φ := fun r : Trained => (r = adpT t sample band share) ∧ (True)) [] (fun r => []) (fn := Tryz.f35) (nt := 132) Tryz.func35 rfl rfl (args := [agTrained t, slFeat false sample, I band, I share]) rfl (allcons (.inl ⟨rfl, by simp [tagged, taggedL, tagFeat]⟩) (allcons (.inl ⟨rfl, tagFeat false _⟩) (allcons (.inl ⟨rfl, trivial⟩) (allcons (.inl ⟨rfl, trivial⟩) allnil)))) (res := fun r => agTrainedT r) ?_
    refine xR [(0, .new 4), (1, .new 8)] [1, 2, 3, 4, 8] [4, 8] [slFeat false sample, I band, I share, .ref 4 0, .ref 8 0] [some (bxTrained t), some (.box [Sv (⟨#[]⟩ : ByteArray), nilA, nilA, I 0])] [] trivial ?_
    refine x_seq ?_
    obtain ⟨v_1, c_1, hx1_0, hx1_1, hc1⟩ := ElasticPath_ok t.Feats sample band oka oks hbd hnm
    have hpv : v_1 = pathOf t.Feats sample band := hx1_0
    have hpl : v_1.length ≤ 145 := by rw [hpv]; exact path_bd oka oks band
    have hpa : ∀ k, k < v_1.length → (0 ≤ (at_ v_1 k).I ∧ (at_ v_1 k).I < (t.Feats.length : Int)) ∧ 0 ≤ (at_ v_1 k).J ∧ (at_ v_1 k).J < (sample.length : Int) := by rw [hpv]; exact fun k hk => path_at oka oks hk
    have hxp : ∀ (f : Feat → Int) (i : Nat), i < t.Feats.length → 1 ≤ (xsF f v_1 sample i).length ∧ (xsF f v_1 sample i).length ≤ 145 := by rw [hpv]; exact fun f i hi => xs_pos oka oks hnm f hi
    have hmX : ∀ i : Nat, i < t.Feats.length → 0 ≤ medI (xsF Feat.X v_1 sample i) ∧ medI (xsF Feat.X v_1 sample i) ≤ 255 := by rw [hpv]; exact fun i hi => med_bd oka oks hnm okF_X hi
    have hmY : ∀ i : Nat, i < t.Feats.length → 0 ≤ medI (xsF Feat.Y v_1 sample i) ∧ medI (xsF Feat.Y v_1 sample i) ≤ 255 := by rw [hpv]; exact fun i hi => med_bd oka oks hnm okF_Y hi
    have had : ∀ i : Nat, adpF t sample band share i = ⟨towI (at_ t.Feats i).X (medI (xsF Feat.X v_1 sample i)) (at_ t.Base i).X share, towI (at_ t.Feats i).Y (medI (xsF Feat.Y v_1 sample i)) (at_ t.Base i).Y share, (at_ t.Feats i).D⟩ := by rw [hpv]; exact fun _ => rfl
    refine x_r [(4, .call [(true, .any), (true, .any), (true, .any)] true (.tup [slPair true v_1, I c_1]))] [1, 3, 4, 8, 9] [4, 8] [slFeat false sample, I share, .ref 4 0, .ref 8 0, slPair true v_1] [some (bxTrained t), some (.box [Sv (⟨#[]⟩ : ByteArray), nilA, nilA, I 0])] [Con Tryz.prog 71 [slFeat false t.Feats, slFeat false sample, I band] true (.tup [slPair true v_1, I c_1]) ∧ True] ⟨⟨hc1, trivial⟩, trivial⟩ ?_
    refine xe_then ?_
    refine xR [(3, .new 29), (7, .new 33)] [1, 3, 4, 8, 9, 11, 12] [4, 8, 29, 33] [slFeat false sample, I share, .ref 4 0, .ref 8 0, slPair true v_1, .arr 29, .arr 33] [some (bxTrained t), some (.box [Sv (⟨#[]⟩ : ByteArray), nilA, nilA, I 0]), some (.arr 1 ((t.Feats.length : Int).toNat) (fun _ => [nilA])), some (.arr 1 ((t.Feats.length : Int).toNat) (fun _ => [nilA]))] [(0 : Int) ≤ (t.Feats.length : Int) ∧ ((t.Feats.length : Int) : Int) ≤ (t.Feats.length : Int) ∧ (24 : Int) * (t.Feats.length : Int) ≤ 281474976710656 ∧ (t.Feats.length : Int) ≤ 9223372036854775807, (0 : Int) ≤ (t.Feats.length : Int) ∧ ((t.Feats.length : Int) : Int) ≤ (t.Feats.length : Int) ∧ (24 : Int) * (t.Feats.length : Int) ≤ 281474976710656 ∧ (t.Feats.length : Int) ≤ 9223372036854775807] ⟨⟨(by omega), (by omega), (by omega), (by omega)⟩, ⟨(by omega), (by omega), (by omega), (by omega)⟩, trivial⟩ ?_
    refine x_seq ?_
    refine xR [] [1, 3, 4, 8, 11, 12, 34, 35, 36] [4, 8, 29, 33] [slFeat false sample, I share, .ref 4 0, .ref 8 0, .arr 29, .arr 33, slPair true v_1, I (v_1.length : Int), I 0] [some (bxTrained t), some (.box [Sv (⟨#[]⟩ : ByteArray), nilA, nilA, I 0]), some (.arr 1 ((t.Feats.length : Int).toNat) (fun _ => [nilA])), some (.arr 1 ((t.Feats.length : Int).toNat) (fun _ => [nilA]))] [] trivial ?_
    refine x_block ?_
    refine x_famN 29 8401 1 rfl (fun q _ => ⟨_, rfl, rfl⟩) (by kernel_rfl) ?_
    refine x_famN 33 8402 1 rfl (fun q _ => ⟨_, rfl, rfl⟩) (by kernel_rfl) ?_
    refine x_weak [] (T := [(1, slFeat false sample), (3, I share), (4, .ref 4 0), (8, .ref 8 0), (11, .arr 29), (12, .arr 33), (34, slPair true v_1), (35, I (v_1.length : Int)), (36, I 0)]) (O := [(4, bxTrained t), (8, .box [Sv (⟨#[]⟩ : ByteArray), nilA, nilA, I 0]), (29, .oar [8401] 1 ((List.replicate ((t.Feats.length : Int).toNat) ([] : List Int)).length) (oLI 8401 (List.replicate ((t.Feats.length : Int).toNat) ([] : List Int)))), (33, .oar [8402] 1 ((List.replicate ((t.Feats.length : Int).toNat) ([] : List Int)).length) (oLI 8402 (List.replicate ((t.Feats.length : Int).toNat) ([] : List Int)))), (8401, .fam (List.replicate ((t.Feats.length : Int).toNat) ([] : List Int)).length 1 (mLI (List.replicate ((t.Feats.length : Int).toNat) ([] : List Int))) (gLI (List.replicate ((t.Feats.length : Int).toNat) ([] : List Int)))), (8402, .fam (List.replicate ((t.Feats.length : Int).toNat) ([] : List Int)).length 1 (mLI (List.replicate ((t.Feats.length : Int).toNat) ([] : List Int))) (gLI (List.replicate ((t.Feats.length : Int).toNat) ([] : List Int))))]) rfl (⟨.inl rfl, .inl rfl, .inl rfl, .inl rfl, .inl rfl, .inl rfl, .inl rfl, .inl rfl, .inl rfl, trivial⟩) (⟨.inl rfl, .inl rfl, .inr ⟨rfl, rfl, (by simp), fun i hi => .inl rfl⟩, .inr ⟨rfl, rfl, (by simp), fun i hi => .inl rfl⟩, .inr (fnilLI ((t.Feats.length : Int).toNat)), .inr (fnilLI ((t.Feats.length : Int).toNat)), trivial⟩) ?_
    refine x_loop (X := Int × (List (List Int)) × (List (List Int))) (fun x => mkS [(1, slFeat false sample), (3, I share), (4, .ref 4 0), (8, .ref 8 0), (11, .arr 29), (12, .arr 33), (34, slPair true v_1), (35, I (v_1.length : Int)), (36, I x.1)] [(4, bxTrained t), (8, .box [Sv (⟨#[]⟩ : ByteArray), nilA, nilA, I 0]), (29, .oar [8401] 1 x.2.1.length (oLI 8401 x.2.1)), (33, .oar [8402] 1 x.2.2.length (oLI 8402 x.2.2)), (8401, .fam x.2.1.length 1 (mLI x.2.1) (gLI x.2.1)), (8402, .fam x.2.2.length 1 (mLI x.2.2) (gLI x.2.2))]) (fun x => (0 ≤ x.1 ∧ x.1 ≤ (v_1.length : Int)) ∧ (tabOk Feat.X v_1 sample x.1.toNat t.Feats.length x.2.1) ∧ (tabOk Feat.Y v_1 sample x.1.toNat t.Feats.length x.2.2) ∧ True) (fun x => ((v_1.length : Int) - x.1).toNat) (0, (List.replicate ((t.Feats.length : Int).toNat) ([] : List Int)), (List.replicate ((t.Feats.length : Int).toNat) ([] : List Int))) rfl (show (0 ≤ (0 : Int) ∧ (0 : Int) ≤ (v_1.length : Int)) ∧ (tabOk Feat.X v_1 sample (0 : Int).toNat t.Feats.length (List.replicate ((t.Feats.length : Int).toNat) ([] : List Int))) ∧ (tabOk Feat.Y v_1 sample (0 : Int).toNat t.Feats.length (List.replicate ((t.Feats.length : Int).toNat) ([] : List Int))) ∧ True from ⟨(by omega), (by exact tab_nil _ _ _ (by first | rfl | omega | simp)), (by exact tab_nil _ _ _ (by first | rfl | omega | simp)), trivial⟩) (fun x hI => ?_)
    obtain ⟨t36, xt, yt⟩ := x
    obtain ⟨hp0, hxt, hyt, _⟩ : (0 ≤ t36 ∧ t36 ≤ (v_1.length : Int)) ∧ (tabOk Feat.X v_1 sample t36.toNat t.Feats.length xt) ∧ (tabOk Feat.Y v_1 sample t36.toNat t.Feats.length yt) ∧ True := hI
    show XW _ _ _ _ (mkS [(1, slFeat false sample), (3, I share), (4, .ref 4 0), (8, .ref 8 0), (11, .arr 29), (12, .arr 33), (34, slPair true v_1), (35, I (v_1.length : Int)), (36, I t36)] [(4, bxTrained t), (8, .box [Sv (⟨#[]⟩ : ByteArray), nilA, nilA, I 0]), (29, .oar [8401] 1 xt.length (oLI 8401 xt)), (33, .oar [8402] 1 yt.length (oLI 8402 yt)), (8401, .fam xt.length 1 (mLI xt) (gLI xt)), (8402, .fam yt.length 1 (mLI yt) (gLI yt))]) _ _
    refine x_seq ?_
    by_cases h1 : t36 < (v_1.length : Int)
    ·have hp : t36.toNat < v_1.length := by omega
     have hpp := hpa t36.toNat hp
     have hxl := hxt.1
     have hyl := hyt.1
     have hxw := tab_row hxt (i := (at_ v_1 t36.toNat).I.toNat) (by omega)
     have hyw := tab_row hyt (i := (at_ v_1 t36.toNat).I.toNat) (by omega)
     have hs1 := okF_iff.1 (okFeats_at oks (show (at_ v_1 t36.toNat).J.toNat < sample.length by omega))
     refine x_r [(0, .dec true)] [1, 3, 4, 8, 11, 12, 34, 35, 36, 37] [4, 8, 29, 33, 8401, 8402] [slFeat false sample, I share, .ref 4 0, .ref 8 0, .arr 29, .arr 33, slPair true v_1, I (v_1.length : Int), I t36, Bv true] [some (bxTrained t), some (.box [Sv (⟨#[]⟩ : ByteArray), nilA, nilA, I 0]), some (.oar [8401] 1 xt.length (oLI 8401 xt)), some (.oar [8402] 1 yt.length (oLI 8402 yt)), some (.fam xt.length 1 (mLI xt) (gLI xt)), some (.fam yt.length 1 (mLI yt) (gLI yt))] [t36 < (v_1.length : Int)] ⟨h1, trivial⟩ ?_
     refine xe_then ?_
     refine x_seq ?_
     refine x_true rfl ?_
     refine x_skip ?_
     refine xe_then ?_
     refine x_seq ?_
     refine x_block ?_
     refine xR [(2, .new 14)] [1, 3, 4, 8, 11, 12, 14, 34, 35, 36] [4, 8, 14, 29, 33, 8401, 8402] [slFeat false sample, I share, .ref 4 0, .ref 8 0, .arr 29, .arr 33, .ref 14 0, slPair true v_1, I (v_1.length : Int), I t36] [some (bxTrained t), some (.box [Sv (⟨#[]⟩ : ByteArray), nilA, nilA, I 0]), some (bxPair (at_ v_1 t36.toNat)), some (.oar [8401] 1 xt.length (oLI 8401 xt)), some (.oar [8402] 1 yt.length (oLI 8402 yt)), some (.fam xt.length 1 (mLI xt) (gLI xt)), some (.fam yt.length 1 (mLI yt) (gLI yt))] [(0 : Int) ≤ t36 ∧ t36 < (v_1.length : Int)] ⟨⟨(by omega), (by omega)⟩, trivial⟩ ?_
     refine x_seq ?_
     refine x_takerow 29 8501 8401 (((at_ v_1 t36.toNat).I).toNat) rfl rfl ((by omega)) (fun q _ => rfl) (by kernel_rfl) ?_
     refine x_weak [] (T := [(1, slFeat false sample), (3, I share), (4, .ref 4 0), (8, .ref 8 0), (11, .arr 29), (12, .arr 33), (14, .ref 14 0), (34, slPair true v_1), (35, I (v_1.length : Int)), (36, I t36)]) (O := [(4, bxTrained t), (8, .box [Sv (⟨#[]⟩ : ByteArray), nilA, nilA, I 0]), (14, bxPair (at_ v_1 t36.toNat)), (29, .oar [8501, 8401] 1 ((xt.set (((at_ v_1 t36.toNat).I).toNat) ([] : List Int)).length) (fun q => bif Nat.beq q (((at_ v_1 t36.toNat).I).toNat) then [.arr 8501] else (oLI 8401 (xt.set (((at_ v_1 t36.toNat).I).toNat) ([] : List Int))) q)), (33, .oar [8402] 1 yt.length (oLI 8402 yt)), (8401, .fam (xt.set (((at_ v_1 t36.toNat).I).toNat) ([] : List Int)).length 1 (mLI (xt.set (((at_ v_1 t36.toNat).I).toNat) ([] : List Int))) (gLI (xt.set (((at_ v_1 t36.toNat).I).toNat) ([] : List Int)))), (8402, .fam yt.length 1 (mLI yt) (gLI yt)), (8501, .arr 1 ((at_ xt (((at_ v_1 t36.toNat).I).toNat)).length) (fI (at_ xt (((at_ v_1 t36.toNat).I).toNat))))]) rfl (⟨.inl rfl, .inl rfl, .inl rfl, .inl rfl, .inl rfl, .inl rfl, .inl rfl, .inl rfl, .inl rfl, .inl rfl, trivial⟩) (⟨.inl rfl, .inl rfl, .inl rfl, .inr ⟨rfl, rfl, (by first | rfl | (simp; done)), fun i hi => .inl (by dsimp only; cases Nat.beq i (((at_ v_1 t36.toNat).I).toNat) <;> rfl)⟩, .inl rfl, .inr (fputLI ((by omega)) (by first | rfl | (simp; done) | (simp; omega)) (fun i_ h_ => absurd h_ (Nat.not_lt_zero _))), .inl rfl, .inl rfl, trivial⟩) ?_
     refine x_r [(7, .as (.arr 8501)), (14, .new 54), (15, .new 55)] [1, 3, 4, 8, 11, 12, 14, 34, 35, 36] [4, 8, 14, 29, 33, 55, 8401, 8402] [slFeat false sample, I share, .ref 4 0, .ref 8 0, .arr 29, .arr 33, .ref 14 0, slPair true v_1, I (v_1.length : Int), I t36] [some (bxTrained t), some (.box [Sv (⟨#[]⟩ : ByteArray), nilA, nilA, I 0]), some (bxPair (at_ v_1 t36.toNat)), some (.oar [8501, 8401, 55] 1 ((xt.set (((at_ v_1 t36.toNat).I).toNat) ([] : List Int)).length) (fun q => bif Nat.beq q (((at_ v_1 t36.toNat).I).toNat) then spl ((fun q => bif Nat.beq q (((at_ v_1 t36.toNat).I).toNat) then [.arr 8501] else (oLI 8401 (xt.set (((at_ v_1 t36.toNat).I).toNat) ([] : List Int))) q) (((at_ v_1 t36.toNat).I).toNat)) 0 [.arr 55] else (fun q => bif Nat.beq q (((at_ v_1 t36.toNat).I).toNat) then [.arr 8501] else (oLI 8401 (xt.set (((at_ v_1 t36.toNat).I).toNat) ([] : List Int))) q) q)), some (.oar [8402] 1 yt.length (oLI 8402 yt)), some (.arr 1 (((at_ xt (((at_ v_1 t36.toNat).I).toNat)).length) + 1) (catF ((at_ xt (((at_ v_1 t36.toNat).I).toNat)).length) (fI (at_ xt (((at_ v_1 t36.toNat).I).toNat))) (litF [I ((at_ sample (((at_ v_1 t36.toNat).J).toNat)).X)] 1))), some (.fam (xt.set (((at_ v_1 t36.toNat).I).toNat) ([] : List Int)).length 1 (mLI (xt.set (((at_ v_1 t36.toNat).I).toNat) ([] : List Int))) (gLI (xt.set (((at_ v_1 t36.toNat).I).toNat) ([] : List Int)))), some (.fam yt.length 1 (mLI yt) (gLI yt))] [(0 : Int) ≤ ((at_ v_1 t36.toNat).I) ∧ ((at_ v_1 t36.toNat).I) < (((xt.set (((at_ v_1 t36.toNat).I).toNat) ([] : List Int)).length) : Int), ((at_ v_1 t36.toNat).I).toNat < (xt.set (((at_ v_1 t36.toNat).I).toNat) ([] : List Int)).length ∧ List.drop 0 ((fun q => bif Nat.beq q (((at_ v_1 t36.toNat).I).toNat) then [.arr 8501] else (oLI 8401 (xt.set (((at_ v_1 t36.toNat).I).toNat) ([] : List Int))) q) (((at_ v_1 t36.toNat).I).toNat)) = [.arr 8501], (0 : Int) ≤ ((at_ v_1 t36.toNat).J) ∧ ((at_ v_1 t36.toNat).J) < (sample.length : Int), (((at_ xt (((at_ v_1 t36.toNat).I).toNat)).length) + 1) * 8 ≤ 140737488355328, (0 : Int) ≤ ((at_ v_1 t36.toNat).I) ∧ ((at_ v_1 t36.toNat).I) < (((xt.set (((at_ v_1 t36.toNat).I).toNat) ([] : List Int)).length) : Int), ((at_ v_1 t36.toNat).I).toNat < (xt.set (((at_ v_1 t36.toNat).I).toNat) ([] : List Int)).length] ⟨⟨(by first | omega | (simp only [List.length_set]; omega)), (by first | omega | (simp only [List.length_set]; omega))⟩, ⟨(by first | omega | (simp only [List.length_set]; omega)), (by simp only [Nat.beq_refl, cond_true]; rfl)⟩, ⟨(by omega), (by omega)⟩, (by omega), ⟨(by first | omega | (simp only [List.length_set]; omega)), (by first | omega | (simp only [List.length_set]; omega))⟩, (by first | omega | (simp only [List.length_set]; omega)), trivial⟩ ?_
     refine xe_then ?_
     refine x_putrow 29 55 8401 (((at_ v_1 t36.toNat).I).toNat) rfl rfl rfl ((by first | omega | (simp only [List.length_set]; omega))) (by first | exact Nat.le_refl _ | omega) (fun q _ => ⟨fun e => by subst e; simp only [Nat.beq_refl, cond_true]; rfl, fun e => by simp only [beq_ne e, cond_false]; rfl⟩) (by kernel_rfl) ?_
     refine x_weak [] (T := [(1, slFeat false sample), (3, I share), (4, .ref 4 0), (8, .ref 8 0), (11, .arr 29), (12, .arr 33), (14, .ref 14 0), (34, slPair true v_1), (35, I (v_1.length : Int)), (36, I t36)]) (O := [(4, bxTrained t), (8, .box [Sv (⟨#[]⟩ : ByteArray), nilA, nilA, I 0]), (14, bxPair (at_ v_1 t36.toNat)), (29, .oar [8401] 1 (((xt.set (((at_ v_1 t36.toNat).I).toNat) ([] : List Int)).set (((at_ v_1 t36.toNat).I).toNat) ((at_ xt (((at_ v_1 t36.toNat).I).toNat)) ++ [(at_ sample (((at_ v_1 t36.toNat).J).toNat)).X])).length) (oLI 8401 ((xt.set (((at_ v_1 t36.toNat).I).toNat) ([] : List Int)).set (((at_ v_1 t36.toNat).I).toNat) ((at_ xt (((at_ v_1 t36.toNat).I).toNat)) ++ [(at_ sample (((at_ v_1 t36.toNat).J).toNat)).X])))), (33, .oar [8402] 1 yt.length (oLI 8402 yt)), (8401, .fam ((xt.set (((at_ v_1 t36.toNat).I).toNat) ([] : List Int)).set (((at_ v_1 t36.toNat).I).toNat) ((at_ xt (((at_ v_1 t36.toNat).I).toNat)) ++ [(at_ sample (((at_ v_1 t36.toNat).J).toNat)).X])).length 1 (mLI ((xt.set (((at_ v_1 t36.toNat).I).toNat) ([] : List Int)).set (((at_ v_1 t36.toNat).I).toNat) ((at_ xt (((at_ v_1 t36.toNat).I).toNat)) ++ [(at_ sample (((at_ v_1 t36.toNat).J).toNat)).X]))) (gLI ((xt.set (((at_ v_1 t36.toNat).I).toNat) ([] : List Int)).set (((at_ v_1 t36.toNat).I).toNat) ((at_ xt (((at_ v_1 t36.toNat).I).toNat)) ++ [(at_ sample (((at_ v_1 t36.toNat).J).toNat)).X])))), (8402, .fam yt.length 1 (mLI yt) (gLI yt))]) rfl (⟨.inl rfl, .inl rfl, .inl rfl, .inl rfl, .inl rfl, .inl rfl, .inl rfl, .inl rfl, .inl rfl, .inl rfl, trivial⟩) (⟨.inl rfl, .inl rfl, .inl rfl, .inr ⟨rfl, rfl, (by simp), fun i hi => .inl rfl⟩, .inl rfl, .inr (fputLI ((by first | omega | (simp only [List.length_set]; omega))) (by first | rfl | (simp; done) | (simp; omega)) (fun i_ h_ => (show ∀ i_ : Nat, i_ < (((at_ xt (((at_ v_1 t36.toNat).I).toNat)) ++ [(at_ sample (((at_ v_1 t36.toNat).J).toNat)).X]) : List Int).length → (catF ((at_ xt (((at_ v_1 t36.toNat).I).toNat)).length) (fI (at_ xt (((at_ v_1 t36.toNat).I).toNat))) (litF [I ((at_ sample (((at_ v_1 t36.toNat).J).toNat)).X)] 1)) i_ = (fI ((at_ xt (((at_ v_1 t36.toNat).I).toNat)) ++ [(at_ sample (((at_ v_1 t36.toNat).J).toNat)).X])) i_ from fun i_ hi_ => (cat_snoc (enc := cI) (xs := (at_ xt (((at_ v_1 t36.toNat).I).toNat))) rfl i_ hi_)) i_ (by first | exact h_ | (simpa using h_)))), .inl rfl, trivial⟩) ?_
     refine x_takerow 33 8502 8402 (((at_ v_1 t36.toNat).I).toNat) rfl rfl ((by omega)) (fun q _ => rfl) (by kernel_rfl) ?_
     refine x_weak [] (T := [(1, slFeat false sample), (3, I share), (4, .ref 4 0), (8, .ref 8 0), (11, .arr 29), (12, .arr 33), (14, .ref 14 0), (34, slPair true v_1), (35, I (v_1.length : Int)), (36, I t36)]) (O := [(4, bxTrained t), (8, .box [Sv (⟨#[]⟩ : ByteArray), nilA, nilA, I 0]), (14, bxPair (at_ v_1 t36.toNat)), (29, .oar [8401] 1 (((xt.set (((at_ v_1 t36.toNat).I).toNat) ([] : List Int)).set (((at_ v_1 t36.toNat).I).toNat) ((at_ xt (((at_ v_1 t36.toNat).I).toNat)) ++ [(at_ sample (((at_ v_1 t36.toNat).J).toNat)).X])).length) (oLI 8401 ((xt.set (((at_ v_1 t36.toNat).I).toNat) ([] : List Int)).set (((at_ v_1 t36.toNat).I).toNat) ((at_ xt (((at_ v_1 t36.toNat).I).toNat)) ++ [(at_ sample (((at_ v_1 t36.toNat).J).toNat)).X])))), (33, .oar [8502, 8402] 1 ((yt.set (((at_ v_1 t36.toNat).I).toNat) ([] : List Int)).length) (fun q => bif Nat.beq q (((at_ v_1 t36.toNat).I).toNat) then [.arr 8502] else (oLI 8402 (yt.set (((at_ v_1 t36.toNat).I).toNat) ([] : List Int))) q)), (8401, .fam ((xt.set (((at_ v_1 t36.toNat).I).toNat) ([] : List Int)).set (((at_ v_1 t36.toNat).I).toNat) ((at_ xt (((at_ v_1 t36.toNat).I).toNat)) ++ [(at_ sample (((at_ v_1 t36.toNat).J).toNat)).X])).length 1 (mLI ((xt.set (((at_ v_1 t36.toNat).I).toNat) ([] : List Int)).set (((at_ v_1 t36.toNat).I).toNat) ((at_ xt (((at_ v_1 t36.toNat).I).toNat)) ++ [(at_ sample (((at_ v_1 t36.toNat).J).toNat)).X]))) (gLI ((xt.set (((at_ v_1 t36.toNat).I).toNat) ([] : List Int)).set (((at_ v_1 t36.toNat).I).toNat) ((at_ xt (((at_ v_1 t36.toNat).I).toNat)) ++ [(at_ sample (((at_ v_1 t36.toNat).J).toNat)).X])))), (8402, .fam (yt.set (((at_ v_1 t36.toNat).I).toNat) ([] : List Int)).length 1 (mLI (yt.set (((at_ v_1 t36.toNat).I).toNat) ([] : List Int))) (gLI (yt.set (((at_ v_1 t36.toNat).I).toNat) ([] : List Int)))), (8502, .arr 1 ((at_ yt (((at_ v_1 t36.toNat).I).toNat)).length) (fI (at_ yt (((at_ v_1 t36.toNat).I).toNat))))]) rfl (⟨.inl rfl, .inl rfl, .inl rfl, .inl rfl, .inl rfl, .inl rfl, .inl rfl, .inl rfl, .inl rfl, .inl rfl, trivial⟩) (⟨.inl rfl, .inl rfl, .inl rfl, .inl rfl, .inr ⟨rfl, rfl, (by first | rfl | (simp; done)), fun i hi => .inl (by dsimp only; cases Nat.beq i (((at_ v_1 t36.toNat).I).toNat) <;> rfl)⟩, .inl rfl, .inr (fputLI ((by omega)) (by first | rfl | (simp; done) | (simp; omega)) (fun i_ h_ => absurd h_ (Nat.not_lt_zero _))), .inl rfl, trivial⟩) ?_
     refine x_r [(7, .as (.arr 8502)), (14, .new 71), (15, .new 72)] [1, 3, 4, 8, 11, 12, 34, 35, 36] [4, 8, 29, 33, 72, 8401, 8402] [slFeat false sample, I share, .ref 4 0, .ref 8 0, .arr 29, .arr 33, slPair true v_1, I (v_1.length : Int), I t36] [some (bxTrained t), some (.box [Sv (⟨#[]⟩ : ByteArray), nilA, nilA, I 0]), some (.oar [8401] 1 (((xt.set (((at_ v_1 t36.toNat).I).toNat) ([] : List Int)).set (((at_ v_1 t36.toNat).I).toNat) ((at_ xt (((at_ v_1 t36.toNat).I).toNat)) ++ [(at_ sample (((at_ v_1 t36.toNat).J).toNat)).X])).length) (oLI 8401 ((xt.set (((at_ v_1 t36.toNat).I).toNat) ([] : List Int)).set (((at_ v_1 t36.toNat).I).toNat) ((at_ xt (((at_ v_1 t36.toNat).I).toNat)) ++ [(at_ sample (((at_ v_1 t36.toNat).J).toNat)).X])))), some (.oar [8502, 8402, 72] 1 ((yt.set (((at_ v_1 t36.toNat).I).toNat) ([] : List Int)).length) (fun q => bif Nat.beq q (((at_ v_1 t36.toNat).I).toNat) then spl ((fun q => bif Nat.beq q (((at_ v_1 t36.toNat).I).toNat) then [.arr 8502] else (oLI 8402 (yt.set (((at_ v_1 t36.toNat).I).toNat) ([] : List Int))) q) (((at_ v_1 t36.toNat).I).toNat)) 0 [.arr 72] else (fun q => bif Nat.beq q (((at_ v_1 t36.toNat).I).toNat) then [.arr 8502] else (oLI 8402 (yt.set (((at_ v_1 t36.toNat).I).toNat) ([] : List Int))) q) q)), some (.arr 1 (((at_ yt (((at_ v_1 t36.toNat).I).toNat)).length) + 1) (catF ((at_ yt (((at_ v_1 t36.toNat).I).toNat)).length) (fI (at_ yt (((at_ v_1 t36.toNat).I).toNat))) (litF [I ((at_ sample (((at_ v_1 t36.toNat).J).toNat)).Y)] 1))), some (.fam ((xt.set (((at_ v_1 t36.toNat).I).toNat) ([] : List Int)).set (((at_ v_1 t36.toNat).I).toNat) ((at_ xt (((at_ v_1 t36.toNat).I).toNat)) ++ [(at_ sample (((at_ v_1 t36.toNat).J).toNat)).X])).length 1 (mLI ((xt.set (((at_ v_1 t36.toNat).I).toNat) ([] : List Int)).set (((at_ v_1 t36.toNat).I).toNat) ((at_ xt (((at_ v_1 t36.toNat).I).toNat)) ++ [(at_ sample (((at_ v_1 t36.toNat).J).toNat)).X]))) (gLI ((xt.set (((at_ v_1 t36.toNat).I).toNat) ([] : List Int)).set (((at_ v_1 t36.toNat).I).toNat) ((at_ xt (((at_ v_1 t36.toNat).I).toNat)) ++ [(at_ sample (((at_ v_1 t36.toNat).J).toNat)).X])))), some (.fam (yt.set (((at_ v_1 t36.toNat).I).toNat) ([] : List Int)).length 1 (mLI (yt.set (((at_ v_1 t36.toNat).I).toNat) ([] : List Int))) (gLI (yt.set (((at_ v_1 t36.toNat).I).toNat) ([] : List Int))))] [(0 : Int) ≤ ((at_ v_1 t36.toNat).I) ∧ ((at_ v_1 t36.toNat).I) < (((yt.set (((at_ v_1 t36.toNat).I).toNat) ([] : List Int)).length) : Int), ((at_ v_1 t36.toNat).I).toNat < (yt.set (((at_ v_1 t36.toNat).I).toNat) ([] : List Int)).length ∧ List.drop 0 ((fun q => bif Nat.beq q (((at_ v_1 t36.toNat).I).toNat) then [.arr 8502] else (oLI 8402 (yt.set (((at_ v_1 t36.toNat).I).toNat) ([] : List Int))) q) (((at_ v_1 t36.toNat).I).toNat)) = [.arr 8502], (0 : Int) ≤ ((at_ v_1 t36.toNat).J) ∧ ((at_ v_1 t36.toNat).J) < (sample.length : Int), (((at_ yt (((at_ v_1 t36.toNat).I).toNat)).length) + 1) * 8 ≤ 140737488355328, (0 : Int) ≤ ((at_ v_1 t36.toNat).I) ∧ ((at_ v_1 t36.toNat).I) < (((yt.set (((at_ v_1 t36.toNat).I).toNat) ([] : List Int)).length) : Int), ((at_ v_1 t36.toNat).I).toNat < (yt.set (((at_ v_1 t36.toNat).I).toNat) ([] : List Int)).length] ⟨⟨(by first | omega | (simp only [List.length_set]; omega)), (by first | omega | (simp only [List.length_set]; omega))⟩, ⟨(by first | omega | (simp only [List.length_set]; omega)), (by simp only [Nat.beq_refl, cond_true]; rfl)⟩, ⟨(by omega), (by omega)⟩, (by omega), ⟨(by first | omega | (simp only [List.length_set]; omega)), (by first | omega | (simp only [List.length_set]; omega))⟩, (by first | omega | (simp only [List.length_set]; omega)), trivial⟩ ?_
     refine xe_block 1 ?_
     refine xe_then ?_
     refine x_putrow 33 72 8402 (((at_ v_1 t36.toNat).I).toNat) rfl rfl rfl ((by first | omega | (simp only [List.length_set]; omega))) (by first | exact Nat.le_refl _ | omega) (fun q _ => ⟨fun e => by subst e; simp only [Nat.beq_refl, cond_true]; rfl, fun e => by simp only [beq_ne e, cond_false]; rfl⟩) (by kernel_rfl) ?_
     refine x_weak [] (T := [(1, slFeat false sample), (3, I share), (4, .ref 4 0), (8, .ref 8 0), (11, .arr 29), (12, .arr 33), (34, slPair true v_1), (35, I (v_1.length : Int)), (36, I t36)]) (O := [(4, bxTrained t), (8, .box [Sv (⟨#[]⟩ : ByteArray), nilA, nilA, I 0]), (29, .oar [8401] 1 (((xt.set (((at_ v_1 t36.toNat).I).toNat) ([] : List Int)).set (((at_ v_1 t36.toNat).I).toNat) ((at_ xt (((at_ v_1 t36.toNat).I).toNat)) ++ [(at_ sample (((at_ v_1 t36.toNat).J).toNat)).X])).length) (oLI 8401 ((xt.set (((at_ v_1 t36.toNat).I).toNat) ([] : List Int)).set (((at_ v_1 t36.toNat).I).toNat) ((at_ xt (((at_ v_1 t36.toNat).I).toNat)) ++ [(at_ sample (((at_ v_1 t36.toNat).J).toNat)).X])))), (33, .oar [8402] 1 (((yt.set (((at_ v_1 t36.toNat).I).toNat) ([] : List Int)).set (((at_ v_1 t36.toNat).I).toNat) ((at_ yt (((at_ v_1 t36.toNat).I).toNat)) ++ [(at_ sample (((at_ v_1 t36.toNat).J).toNat)).Y])).length) (oLI 8402 ((yt.set (((at_ v_1 t36.toNat).I).toNat) ([] : List Int)).set (((at_ v_1 t36.toNat).I).toNat) ((at_ yt (((at_ v_1 t36.toNat).I).toNat)) ++ [(at_ sample (((at_ v_1 t36.toNat).J).toNat)).Y])))), (8401, .fam ((xt.set (((at_ v_1 t36.toNat).I).toNat) ([] : List Int)).set (((at_ v_1 t36.toNat).I).toNat) ((at_ xt (((at_ v_1 t36.toNat).I).toNat)) ++ [(at_ sample (((at_ v_1 t36.toNat).J).toNat)).X])).length 1 (mLI ((xt.set (((at_ v_1 t36.toNat).I).toNat) ([] : List Int)).set (((at_ v_1 t36.toNat).I).toNat) ((at_ xt (((at_ v_1 t36.toNat).I).toNat)) ++ [(at_ sample (((at_ v_1 t36.toNat).J).toNat)).X]))) (gLI ((xt.set (((at_ v_1 t36.toNat).I).toNat) ([] : List Int)).set (((at_ v_1 t36.toNat).I).toNat) ((at_ xt (((at_ v_1 t36.toNat).I).toNat)) ++ [(at_ sample (((at_ v_1 t36.toNat).J).toNat)).X])))), (8402, .fam ((yt.set (((at_ v_1 t36.toNat).I).toNat) ([] : List Int)).set (((at_ v_1 t36.toNat).I).toNat) ((at_ yt (((at_ v_1 t36.toNat).I).toNat)) ++ [(at_ sample (((at_ v_1 t36.toNat).J).toNat)).Y])).length 1 (mLI ((yt.set (((at_ v_1 t36.toNat).I).toNat) ([] : List Int)).set (((at_ v_1 t36.toNat).I).toNat) ((at_ yt (((at_ v_1 t36.toNat).I).toNat)) ++ [(at_ sample (((at_ v_1 t36.toNat).J).toNat)).Y]))) (gLI ((yt.set (((at_ v_1 t36.toNat).I).toNat) ([] : List Int)).set (((at_ v_1 t36.toNat).I).toNat) ((at_ yt (((at_ v_1 t36.toNat).I).toNat)) ++ [(at_ sample (((at_ v_1 t36.toNat).J).toNat)).Y]))))]) rfl (⟨.inl rfl, .inl rfl, .inl rfl, .inl rfl, .inl rfl, .inl rfl, .inl rfl, .inl rfl, .inl rfl, trivial⟩) (⟨.inl rfl, .inl rfl, .inl rfl, .inr ⟨rfl, rfl, (by simp), fun i hi => .inl rfl⟩, .inl rfl, .inr (fputLI ((by first | omega | (simp only [List.length_set]; omega))) (by first | rfl | (simp; done) | (simp; omega)) (fun i_ h_ => (show ∀ i_ : Nat, i_ < (((at_ yt (((at_ v_1 t36.toNat).I).toNat)) ++ [(at_ sample (((at_ v_1 t36.toNat).J).toNat)).Y]) : List Int).length → (catF ((at_ yt (((at_ v_1 t36.toNat).I).toNat)).length) (fI (at_ yt (((at_ v_1 t36.toNat).I).toNat))) (litF [I ((at_ sample (((at_ v_1 t36.toNat).J).toNat)).Y)] 1)) i_ = (fI ((at_ yt (((at_ v_1 t36.toNat).I).toNat)) ++ [(at_ sample (((at_ v_1 t36.toNat).J).toNat)).Y])) i_ from fun i_ hi_ => (cat_snoc (enc := cI) (xs := (at_ yt (((at_ v_1 t36.toNat).I).toNat))) rfl i_ hi_)) i_ (by first | exact h_ | (simpa using h_)))), trivial⟩) ?_
     refine x_r [] [1, 3, 4, 8, 11, 12, 34, 35, 36] [4, 8, 29, 33, 8401, 8402] [slFeat false sample, I share, .ref 4 0, .ref 8 0, .arr 29, .arr 33, slPair true v_1, I (v_1.length : Int), I (t36 + 1)] [some (bxTrained t), some (.box [Sv (⟨#[]⟩ : ByteArray), nilA, nilA, I 0]), some (.oar [8401] 1 (((xt.set (((at_ v_1 t36.toNat).I).toNat) ([] : List Int)).set (((at_ v_1 t36.toNat).I).toNat) ((at_ xt (((at_ v_1 t36.toNat).I).toNat)) ++ [(at_ sample (((at_ v_1 t36.toNat).J).toNat)).X])).length) (oLI 8401 ((xt.set (((at_ v_1 t36.toNat).I).toNat) ([] : List Int)).set (((at_ v_1 t36.toNat).I).toNat) ((at_ xt (((at_ v_1 t36.toNat).I).toNat)) ++ [(at_ sample (((at_ v_1 t36.toNat).J).toNat)).X])))), some (.oar [8402] 1 (((yt.set (((at_ v_1 t36.toNat).I).toNat) ([] : List Int)).set (((at_ v_1 t36.toNat).I).toNat) ((at_ yt (((at_ v_1 t36.toNat).I).toNat)) ++ [(at_ sample (((at_ v_1 t36.toNat).J).toNat)).Y])).length) (oLI 8402 ((yt.set (((at_ v_1 t36.toNat).I).toNat) ([] : List Int)).set (((at_ v_1 t36.toNat).I).toNat) ((at_ yt (((at_ v_1 t36.toNat).I).toNat)) ++ [(at_ sample (((at_ v_1 t36.toNat).J).toNat)).Y])))), some (.fam ((xt.set (((at_ v_1 t36.toNat).I).toNat) ([] : List Int)).set (((at_ v_1 t36.toNat).I).toNat) ((at_ xt (((at_ v_1 t36.toNat).I).toNat)) ++ [(at_ sample (((at_ v_1 t36.toNat).J).toNat)).X])).length 1 (mLI ((xt.set (((at_ v_1 t36.toNat).I).toNat) ([] : List Int)).set (((at_ v_1 t36.toNat).I).toNat) ((at_ xt (((at_ v_1 t36.toNat).I).toNat)) ++ [(at_ sample (((at_ v_1 t36.toNat).J).toNat)).X]))) (gLI ((xt.set (((at_ v_1 t36.toNat).I).toNat) ([] : List Int)).set (((at_ v_1 t36.toNat).I).toNat) ((at_ xt (((at_ v_1 t36.toNat).I).toNat)) ++ [(at_ sample (((at_ v_1 t36.toNat).J).toNat)).X])))), some (.fam ((yt.set (((at_ v_1 t36.toNat).I).toNat) ([] : List Int)).set (((at_ v_1 t36.toNat).I).toNat) ((at_ yt (((at_ v_1 t36.toNat).I).toNat)) ++ [(at_ sample (((at_ v_1 t36.toNat).J).toNat)).Y])).length 1 (mLI ((yt.set (((at_ v_1 t36.toNat).I).toNat) ([] : List Int)).set (((at_ v_1 t36.toNat).I).toNat) ((at_ yt (((at_ v_1 t36.toNat).I).toNat)) ++ [(at_ sample (((at_ v_1 t36.toNat).J).toNat)).Y]))) (gLI ((yt.set (((at_ v_1 t36.toNat).I).toNat) ([] : List Int)).set (((at_ v_1 t36.toNat).I).toNat) ((at_ yt (((at_ v_1 t36.toNat).I).toNat)) ++ [(at_ sample (((at_ v_1 t36.toNat).J).toNat)).Y]))))] [inR .i64 (t36 + 1)] ⟨(inR_i64 (by omega) (by omega)), trivial⟩ ?_
     exact xe_again ((t36 + 1), ((xt.set (((at_ v_1 t36.toNat).I).toNat) ([] : List Int)).set (((at_ v_1 t36.toNat).I).toNat) ((at_ xt (((at_ v_1 t36.toNat).I).toNat)) ++ [(at_ sample (((at_ v_1 t36.toNat).J).toNat)).X])), ((yt.set (((at_ v_1 t36.toNat).I).toNat) ([] : List Int)).set (((at_ v_1 t36.toNat).I).toNat) ((at_ yt (((at_ v_1 t36.toNat).I).toNat)) ++ [(at_ sample (((at_ v_1 t36.toNat).J).toNat)).Y]))) rfl (show (0 ≤ (t36 + 1) ∧ (t36 + 1) ≤ (v_1.length : Int)) ∧ (tabOk Feat.X v_1 sample (t36 + 1).toNat t.Feats.length ((xt.set (((at_ v_1 t36.toNat).I).toNat) ([] : List Int)).set (((at_ v_1 t36.toNat).I).toNat) ((at_ xt (((at_ v_1 t36.toNat).I).toNat)) ++ [(at_ sample (((at_ v_1 t36.toNat).J).toNat)).X]))) ∧ (tabOk Feat.Y v_1 sample (t36 + 1).toNat t.Feats.length ((yt.set (((at_ v_1 t36.toNat).I).toNat) ([] : List Int)).set (((at_ v_1 t36.toNat).I).toNat) ((at_ yt (((at_ v_1 t36.toNat).I).toNat)) ++ [(at_ sample (((at_ v_1 t36.toNat).J).toNat)).Y]))) ∧ True from ⟨(by omega), (by rw [show (t36 + 1).toNat = t36.toNat + 1 from by omega]; exact tab_next hxt hp hpp.1 rfl rfl), (by rw [show (t36 + 1).toNat = t36.toNat + 1 from by omega]; exact tab_next hyt hp hpp.1 rfl rfl), trivial⟩) (by first | (show (((v_1.length : Int) - (t36 + 1)).toNat : Nat) < ((v_1.length : Int) - t36).toNat; omega) | (dsimp only; omega))
    have hpe : t36.toNat = v_1.length := by omega
    have hxl := hxt.1
    have hyl := hyt.1
    refine x_r [(0, .dec false)] [1, 3, 4, 8, 11, 12, 34, 35, 36, 37] [4, 8, 29, 33, 8401, 8402] [slFeat false sample, I share, .ref 4 0, .ref 8 0, .arr 29, .arr 33, slPair true v_1, I (v_1.length : Int), I t36, Bv false] [some (bxTrained t), some (.box [Sv (⟨#[]⟩ : ByteArray), nilA, nilA, I 0]), some (.oar [8401] 1 xt.length (oLI 8401 xt)), some (.oar [8402] 1 yt.length (oLI 8402 yt)), some (.fam xt.length 1 (mLI xt) (gLI xt)), some (.fam yt.length 1 (mLI yt) (gLI yt))] [¬ (t36 < (v_1.length : Int))] ⟨h1, trivial⟩ ?_
    refine xe_then ?_
    refine x_seq ?_
    refine x_false rfl ?_
    refine x_exit ?_
    refine xe_exit_then ?_
    refine xe_loop_exit ?_
    refine xe_exit_same ?_
    refine xe_then ?_
    refine xR [(4, .call [(true, .any)] true (slFeat true t.Base)), (9, .new 15)] [3, 4, 8, 11, 12, 15] [4, 8, 15, 29, 33, 8401, 8402] [I share, .ref 4 0, .ref 8 0, .arr 29, .arr 33, .ref 15 0] [some (bxTrained t), some (.box [Sv (⟨#[]⟩ : ByteArray), nilA, nilA, I 0]), some (.box [Sv t.Label, slFeat true t.Base, nilA, I (t.Count + 1)]), some (.oar [8401] 1 xt.length (oLI 8401 xt)), some (.oar [8402] 1 yt.length (oLI 8402 yt)), some (.fam xt.length 1 (mLI xt) (gLI xt)), some (.fam yt.length 1 (mLI yt) (gLI yt))] [Con Tryz.prog 36 [slFeat false t.Base] true (slFeat true t.Base) ∧ True, inR .i64 (t.Count + 1)] ⟨⟨(cloneT_ok t.Base (by omega)), trivial⟩, (inR_i64 (by omega) (by omega)), trivial⟩ ?_
    refine x_seq ?_
    refine xR [] [3, 4, 8, 11, 12, 15, 85, 86, 87] [4, 8, 15, 29, 33, 8401, 8402] [I share, .ref 4 0, .ref 8 0, .arr 29, .arr 33, .ref 15 0, slFeat false t.Feats, I (t.Feats.length : Int), I 0] [some (bxTrained t), some (.box [Sv (⟨#[]⟩ : ByteArray), nilA, nilA, I 0]), some (.box [Sv t.Label, slFeat true t.Base, nilA, I (t.Count + 1)]), some (.oar [8401] 1 xt.length (oLI 8401 xt)), some (.oar [8402] 1 yt.length (oLI 8402 yt)), some (.fam xt.length 1 (mLI xt) (gLI xt)), some (.fam yt.length 1 (mLI yt) (gLI yt))] [] trivial ?_
    refine x_block ?_
    refine x_nilC 15 2 852 3 (fun _ => []) rfl (by kernel_rfl) ?_
    refine x_weak [] (T := [(3, I share), (4, .ref 4 0), (8, .ref 8 0), (11, .arr 29), (12, .arr 33), (15, .ref 15 0), (85, slFeat false t.Feats), (86, I (t.Feats.length : Int)), (87, I 0)]) (O := [(4, bxTrained t), (8, .box [Sv (⟨#[]⟩ : ByteArray), nilA, nilA, I 0]), (15, .box [Sv t.Label, slFeat true t.Base, .arr 852, I (t.Count + 1)]), (29, .oar [8401] 1 xt.length (oLI 8401 xt)), (33, .oar [8402] 1 yt.length (oLI 8402 yt)), (852, .arr 3 (([] : List Feat).length) (fFeat ([] : List Feat))), (8401, .fam xt.length 1 (mLI xt) (gLI xt)), (8402, .fam yt.length 1 (mLI yt) (gLI yt))]) rfl (⟨.inl rfl, .inl rfl, .inl rfl, .inl rfl, .inl rfl, .inl rfl, .inl rfl, .inl rfl, .inl rfl, trivial⟩) (⟨.inl rfl, .inl rfl, .inl rfl, .inl rfl, .inl rfl, .inr ⟨rfl, (by first | rfl | (simp; done) | (simp; omega) | omega), fun i_ hi_ => absurd hi_ (Nat.not_lt_zero _)⟩, .inl rfl, .inl rfl, trivial⟩) ?_
    refine x_loop (X := Int × (List Feat) × (List (List Int)) × (List (List Int))) (fun x => mkS [(3, I share), (4, .ref 4 0), (8, .ref 8 0), (11, .arr 29), (12, .arr 33), (15, .ref 15 0), (85, slFeat false t.Feats), (86, I (t.Feats.length : Int)), (87, I x.1)] [(4, bxTrained t), (8, .box [Sv (⟨#[]⟩ : ByteArray), nilA, nilA, I 0]), (15, .box [Sv t.Label, slFeat true t.Base, .arr 852, I (t.Count + 1)]), (29, .oar [8401] 1 x.2.2.1.length (oLI 8401 x.2.2.1)), (33, .oar [8402] 1 x.2.2.2.length (oLI 8402 x.2.2.2)), (852, .arr 3 x.2.1.length (fFeat x.2.1)), (8401, .fam x.2.2.1.length 1 (mLI x.2.2.1) (gLI x.2.2.1)), (8402, .fam x.2.2.2.length 1 (mLI x.2.2.2) (gLI x.2.2.2))]) (fun x => (0 ≤ x.1 ∧ x.1 ≤ (t.Feats.length : Int)) ∧ (tabR Feat.X v_1 sample x.1.toNat t.Feats.length x.2.2.1) ∧ (tabR Feat.Y v_1 sample x.1.toNat t.Feats.length x.2.2.2) ∧ (x.2.1 = adpN t sample band share x.1.toNat) ∧ True) (fun x => ((t.Feats.length : Int) - x.1).toNat) (0, ([] : List Feat), xt, yt) rfl (show (0 ≤ (0 : Int) ∧ (0 : Int) ≤ (t.Feats.length : Int)) ∧ (tabR Feat.X v_1 sample (0 : Int).toNat t.Feats.length xt) ∧ (tabR Feat.Y v_1 sample (0 : Int).toNat t.Feats.length yt) ∧ (([] : List Feat) = adpN t sample band share (0 : Int).toNat) ∧ True from ⟨(by omega), (by exact tabR_start hxt hpe), (by exact tabR_start hyt hpe), (by rfl), trivial⟩) (fun x hI => ?_)
    obtain ⟨t87, fs, xt', yt'⟩ := x
    obtain ⟨hi0, hxt', hyt', hfs, _⟩ : (0 ≤ t87 ∧ t87 ≤ (t.Feats.length : Int)) ∧ (tabR Feat.X v_1 sample t87.toNat t.Feats.length xt') ∧ (tabR Feat.Y v_1 sample t87.toNat t.Feats.length yt') ∧ (fs = adpN t sample band share t87.toNat) ∧ True := hI
    show XW _ _ _ _ (mkS [(3, I share), (4, .ref 4 0), (8, .ref 8 0), (11, .arr 29), (12, .arr 33), (15, .ref 15 0), (85, slFeat false t.Feats), (86, I (t.Feats.length : Int)), (87, I t87)] [(4, bxTrained t), (8, .box [Sv (⟨#[]⟩ : ByteArray), nilA, nilA, I 0]), (15, .box [Sv t.Label, slFeat true t.Base, .arr 852, I (t.Count + 1)]), (29, .oar [8401] 1 xt'.length (oLI 8401 xt')), (33, .oar [8402] 1 yt'.length (oLI 8402 yt')), (852, .arr 3 fs.length (fFeat fs)), (8401, .fam xt'.length 1 (mLI xt') (gLI xt')), (8402, .fam yt'.length 1 (mLI yt') (gLI yt'))]) _ _
    refine x_seq ?_
    by_cases h2 : t87 < (t.Feats.length : Int)
    ·have hi : t87.toNat < t.Feats.length := by omega
     have hix : ((t87.toNat : Nat) : Int) = t87 := by omega
     have hfo := okF_iff.1 (okFeats_at oka hi)
     have hbo := okF_iff.1 (okFeats_at okb (show t87.toNat < t.Base.length by omega))
     have hfl : fs.length = t87.toNat := by rw [hfs, adpN_len]
     have hxl' := hxt'.1
     have hyl' := hyt'.1
     have hxr := hxt'.2 t87.toNat (Nat.le_refl _) hi
     have hyr := hyt'.2 t87.toNat (Nat.le_refl _) hi
     have hxq := hxp Feat.X t87.toNat hi
     have hyq := hxp Feat.Y t87.toNat hi
     rw [← hxr] at hxq
     rw [← hyr] at hyq
     refine x_r [(0, .dec true)] [3, 4, 8, 11, 12, 15, 85, 86, 87, 88] [4, 8, 15, 29, 33, 852, 8401, 8402] [I share, .ref 4 0, .ref 8 0, .arr 29, .arr 33, .ref 15 0, slFeat false t.Feats, I (t.Feats.length : Int), I t87, Bv true] [some (bxTrained t), some (.box [Sv (⟨#[]⟩ : ByteArray), nilA, nilA, I 0]), some (.box [Sv t.Label, slFeat true t.Base, .arr 852, I (t.Count + 1)]), some (.oar [8401] 1 xt'.length (oLI 8401 xt')), some (.oar [8402] 1 yt'.length (oLI 8402 yt')), some (.arr 3 fs.length (fFeat fs)), some (.fam xt'.length 1 (mLI xt') (gLI xt')), some (.fam yt'.length 1 (mLI yt') (gLI yt'))] [t87 < (t.Feats.length : Int)] ⟨h2, trivial⟩ ?_
     refine xe_then ?_
     refine x_seq ?_
     refine x_true rfl ?_
     refine x_skip ?_
     refine xe_then ?_
     refine x_seq ?_
     refine x_block ?_
     refine xR [(3, .new 17)] [3, 4, 8, 11, 12, 15, 16, 17, 85, 86, 87] [4, 8, 15, 17, 29, 33, 852, 8401, 8402] [I share, .ref 4 0, .ref 8 0, .arr 29, .arr 33, .ref 15 0, I t87, .ref 17 0, slFeat false t.Feats, I (t.Feats.length : Int), I t87] [some (bxTrained t), some (.box [Sv (⟨#[]⟩ : ByteArray), nilA, nilA, I 0]), some (.box [Sv t.Label, slFeat true t.Base, .arr 852, I (t.Count + 1)]), some (bxFeat (at_ t.Feats t87.toNat)), some (.oar [8401] 1 xt'.length (oLI 8401 xt')), some (.oar [8402] 1 yt'.length (oLI 8402 yt')), some (.arr 3 fs.length (fFeat fs)), some (.fam xt'.length 1 (mLI xt') (gLI xt')), some (.fam yt'.length 1 (mLI yt') (gLI yt'))] [(0 : Int) ≤ t87 ∧ t87 < (t.Feats.length : Int)] ⟨⟨(by omega), (by omega)⟩, trivial⟩ ?_
     refine x_seq ?_
     refine x_takerow 29 7201 8401 t87.toNat rfl rfl ((by omega)) (fun q _ => rfl) (by kernel_rfl) ?_
     refine x_weak [] (T := [(3, I share), (4, .ref 4 0), (8, .ref 8 0), (11, .arr 29), (12, .arr 33), (15, .ref 15 0), (16, I t87), (17, .ref 17 0), (85, slFeat false t.Feats), (86, I (t.Feats.length : Int)), (87, I t87)]) (O := [(4, bxTrained t), (8, .box [Sv (⟨#[]⟩ : ByteArray), nilA, nilA, I 0]), (15, .box [Sv t.Label, slFeat true t.Base, .arr 852, I (t.Count + 1)]), (17, bxFeat (at_ t.Feats t87.toNat)), (29, .oar [7201, 8401] 1 ((xt'.set t87.toNat ([] : List Int)).length) (fun q => bif Nat.beq q t87.toNat then [.arr 7201] else (oLI 8401 (xt'.set t87.toNat ([] : List Int))) q)), (33, .oar [8402] 1 yt'.length (oLI 8402 yt')), (852, .arr 3 fs.length (fFeat fs)), (7201, .arr 1 ((at_ xt' t87.toNat).length) (fI (at_ xt' t87.toNat))), (8401, .fam (xt'.set t87.toNat ([] : List Int)).length 1 (mLI (xt'.set t87.toNat ([] : List Int))) (gLI (xt'.set t87.toNat ([] : List Int)))), (8402, .fam yt'.length 1 (mLI yt') (gLI yt'))]) rfl (⟨.inl rfl, .inl rfl, .inl rfl, .inl rfl, .inl rfl, .inl rfl, .inl rfl, .inl rfl, .inl rfl, .inl rfl, .inl rfl, trivial⟩) (⟨.inl rfl, .inl rfl, .inl rfl, .inl rfl, .inr ⟨rfl, rfl, (by first | rfl | (simp; done)), fun i hi => .inl (by dsimp only; cases Nat.beq i t87.toNat <;> rfl)⟩, .inl rfl, .inl rfl, .inl rfl, .inr (fputLI ((by omega)) (by first | rfl | (simp; done) | (simp; omega)) (fun i_ h_ => absurd h_ (Nat.not_lt_zero _))), .inl rfl, trivial⟩) ?_
     obtain ⟨v_2, list'_2, hx2_0, hc2⟩ := medianOf_ok (at_ xt' t87.toNat) (by omega)
     have hMX : medI (xsF Feat.X v_1 sample t87) = v_2 := by rw [← hix, ← hxr]; exact hx2_0.symm
     have hmX2 : 0 ≤ v_2 ∧ v_2 ≤ 255 := by have q := hmX t87.toNat hi; rw [hix, hMX] at q; exact q
     refine x_r [(5, .as (.arr 7201)), (6, .lend [(7201, .arr 1 ((at_ xt' t87.toNat).length) (fI (at_ xt' t87.toNat)), .arr 1 list'_2.length (fI list'_2))] [] [(true, .any)] true (I v_2)), (14, .call [(true, .any), (true, .any), (true, .any), (true, .any)] true (I (towI ((at_ t.Feats t87.toNat).X) v_2 ((at_ t.Base t87.toNat).X) share)))] [3, 4, 8, 11, 12, 15, 16, 17, 85, 86, 87] [4, 8, 15, 17, 29, 33, 852, 7201, 8401, 8402] [I share, .ref 4 0, .ref 8 0, .arr 29, .arr 33, .ref 15 0, I t87, .ref 17 0, slFeat false t.Feats, I (t.Feats.length : Int), I t87] [some (bxTrained t), some (.box [Sv (⟨#[]⟩ : ByteArray), nilA, nilA, I 0]), some (.box [Sv t.Label, slFeat true t.Base, .arr 852, I (t.Count + 1)]), some (.box [I (towI ((at_ t.Feats t87.toNat).X) v_2 ((at_ t.Base t87.toNat).X) share), I ((at_ t.Feats t87.toNat).Y), I ((at_ t.Feats t87.toNat).D)]), some (.oar [7201, 8401] 1 ((xt'.set t87.toNat ([] : List Int)).length) (fun q => bif Nat.beq q t87.toNat then [.arr 7201] else (oLI 8401 (xt'.set t87.toNat ([] : List Int))) q)), some (.oar [8402] 1 yt'.length (oLI 8402 yt')), some (.arr 3 fs.length (fFeat fs)), some (.arr 1 list'_2.length (fI list'_2)), some (.fam (xt'.set t87.toNat ([] : List Int)).length 1 (mLI (xt'.set t87.toNat ([] : List Int))) (gLI (xt'.set t87.toNat ([] : List Int)))), some (.fam yt'.length 1 (mLI yt') (gLI yt'))] [(0 : Int) ≤ t87 ∧ t87 < (((xt'.set t87.toNat ([] : List Int)).length) : Int), t87.toNat < (xt'.set t87.toNat ([] : List Int)).length ∧ List.drop 0 ((fun q => bif Nat.beq q t87.toNat then [.arr 7201] else (oLI 8401 (xt'.set t87.toNat ([] : List Int))) q) t87.toNat) = [.arr 7201], CallOK Tryz.prog 73 [.arr 7201] (lookO [(7201, .arr 1 ((at_ xt' t87.toNat).length) (fI (at_ xt' t87.toNat)))]) true (I v_2) (lookO [(7201, .arr 1 list'_2.length (fI list'_2))]) ∧ (((.arr 1 ((at_ xt' t87.toNat).length) (fI (at_ xt' t87.toNat)) : Ob) = .arr 1 ((at_ xt' t87.toNat).length) (fI (at_ xt' t87.toNat)) ∨ obLe noOb true (.arr 1 ((at_ xt' t87.toNat).length) (fI (at_ xt' t87.toNat))) (.arr 1 ((at_ xt' t87.toNat).length) (fI (at_ xt' t87.toNat)))) ∧ taggedO false (.arr 1 ((at_ xt' t87.toNat).length) (fI (at_ xt' t87.toNat)))) ∧ True, (0 : Int) ≤ t87 ∧ t87 < (t.Base.length : Int), Con Tryz.prog 72 [I ((at_ t.Feats t87.toNat).X), I v_2, I ((at_ t.Base t87.toNat).X), I share] true (I (towI ((at_ t.Feats t87.toNat).X) v_2 ((at_ t.Base t87.toNat).X) share)) ∧ True] ⟨⟨(by first | omega | (simp only [List.length_set]; omega)), (by first | omega | (simp only [List.length_set]; omega))⟩, ⟨(by first | omega | (simp only [List.length_set]; omega)), (by simp only [Nat.beq_refl, cond_true]; rfl)⟩, ⟨hc2, ⟨.inl rfl, fun _ _ => tagcI false _⟩, trivial⟩, ⟨(by omega), (by omega)⟩, ⟨(towards_ok ((at_ t.Feats t87.toNat).X) v_2 ((at_ t.Base t87.toNat).X) share (by omega) (by omega) (by omega) (by omega)), trivial⟩, trivial⟩ ?_
     refine xe_then ?_
     refine x_seq ?_
     refine x_putrow 29 7201 8401 t87.toNat rfl rfl rfl ((by first | omega | (simp only [List.length_set]; omega))) (by first | exact Nat.le_refl _ | omega) (fun q _ => ⟨fun e => by subst e; simp only [Nat.beq_refl, cond_true], fun e => by simp only [beq_ne e, cond_false]; rfl⟩) (by kernel_rfl) ?_
     refine x_weak [] (T := [(3, I share), (4, .ref 4 0), (8, .ref 8 0), (11, .arr 29), (12, .arr 33), (15, .ref 15 0), (16, I t87), (17, .ref 17 0), (85, slFeat false t.Feats), (86, I (t.Feats.length : Int)), (87, I t87)]) (O := [(4, bxTrained t), (8, .box [Sv (⟨#[]⟩ : ByteArray), nilA, nilA, I 0]), (15, .box [Sv t.Label, slFeat true t.Base, .arr 852, I (t.Count + 1)]), (17, .box [I (towI ((at_ t.Feats t87.toNat).X) v_2 ((at_ t.Base t87.toNat).X) share), I ((at_ t.Feats t87.toNat).Y), I ((at_ t.Feats t87.toNat).D)]), (29, .oar [8401] 1 (((xt'.set t87.toNat ([] : List Int)).set t87.toNat list'_2).length) (oLI 8401 ((xt'.set t87.toNat ([] : List Int)).set t87.toNat list'_2))), (33, .oar [8402] 1 yt'.length (oLI 8402 yt')), (852, .arr 3 fs.length (fFeat fs)), (8401, .fam ((xt'.set t87.toNat ([] : List Int)).set t87.toNat list'_2).length 1 (mLI ((xt'.set t87.toNat ([] : List Int)).set t87.toNat list'_2)) (gLI ((xt'.set t87.toNat ([] : List Int)).set t87.toNat list'_2))), (8402, .fam yt'.length 1 (mLI yt') (gLI yt'))]) rfl (⟨.inl rfl, .inl rfl, .inl rfl, .inl rfl, .inl rfl, .inl rfl, .inl rfl, .inl rfl, .inl rfl, .inl rfl, .inl rfl, trivial⟩) (⟨.inl rfl, .inl rfl, .inl rfl, .inl rfl, .inr ⟨rfl, rfl, (by simp), fun i hi => .inl rfl⟩, .inl rfl, .inl rfl, .inr (fputLI ((by first | omega | (simp only [List.length_set]; omega))) (by first | rfl | (simp; done) | (simp; omega)) (fun i _ => rfl)), .inl rfl, trivial⟩) ?_
     refine x_takerow 33 7201 8402 t87.toNat rfl rfl ((by omega)) (fun q _ => rfl) (by kernel_rfl) ?_
     refine x_weak [] (T := [(3, I share), (4, .ref 4 0), (8, .ref 8 0), (11, .arr 29), (12, .arr 33), (15, .ref 15 0), (16, I t87), (17, .ref 17 0), (85, slFeat false t.Feats), (86, I (t.Feats.length : Int)), (87, I t87)]) (O := [(4, bxTrained t), (8, .box [Sv (⟨#[]⟩ : ByteArray), nilA, nilA, I 0]), (15, .box [Sv t.Label, slFeat true t.Base, .arr 852, I (t.Count + 1)]), (17, .box [I (towI ((at_ t.Feats t87.toNat).X) v_2 ((at_ t.Base t87.toNat).X) share), I ((at_ t.Feats t87.toNat).Y), I ((at_ t.Feats t87.toNat).D)]), (29, .oar [8401] 1 (((xt'.set t87.toNat ([] : List Int)).set t87.toNat list'_2).length) (oLI 8401 ((xt'.set t87.toNat ([] : List Int)).set t87.toNat list'_2))), (33, .oar [7201, 8402] 1 ((yt'.set t87.toNat ([] : List Int)).length) (fun q => bif Nat.beq q t87.toNat then [.arr 7201] else (oLI 8402 (yt'.set t87.toNat ([] : List Int))) q)), (852, .arr 3 fs.length (fFeat fs)), (7201, .arr 1 ((at_ yt' t87.toNat).length) (fI (at_ yt' t87.toNat))), (8401, .fam ((xt'.set t87.toNat ([] : List Int)).set t87.toNat list'_2).length 1 (mLI ((xt'.set t87.toNat ([] : List Int)).set t87.toNat list'_2)) (gLI ((xt'.set t87.toNat ([] : List Int)).set t87.toNat list'_2))), (8402, .fam (yt'.set t87.toNat ([] : List Int)).length 1 (mLI (yt'.set t87.toNat ([] : List Int))) (gLI (yt'.set t87.toNat ([] : List Int))))]) rfl (⟨.inl rfl, .inl rfl, .inl rfl, .inl rfl, .inl rfl, .inl rfl, .inl rfl, .inl rfl, .inl rfl, .inl rfl, .inl rfl, trivial⟩) (⟨.inl rfl, .inl rfl, .inl rfl, .inl rfl, .inl rfl, .inr ⟨rfl, rfl, (by first | rfl | (simp; done)), fun i hi => .inl (by dsimp only; cases Nat.beq i t87.toNat <;> rfl)⟩, .inl rfl, .inl rfl, .inl rfl, .inr (fputLI ((by omega)) (by first | rfl | (simp; done) | (simp; omega)) (fun i_ h_ => absurd h_ (Nat.not_lt_zero _))), trivial⟩) ?_
     obtain ⟨v_3, list'_3, hx3_0, hc3⟩ := medianOf_ok (at_ yt' t87.toNat) (by omega)
     have hMY : medI (xsF Feat.Y v_1 sample t87) = v_3 := by rw [← hix, ← hyr]; exact hx3_0.symm
     have hmY2 : 0 ≤ v_3 ∧ v_3 ≤ 255 := by have q := hmY t87.toNat hi; rw [hix, hMY] at q; exact q
     refine x_r [(5, .as (.arr 7201)), (6, .lend [(7201, .arr 1 ((at_ yt' t87.toNat).length) (fI (at_ yt' t87.toNat)), .arr 1 list'_3.length (fI list'_3))] [] [(true, .any)] true (I v_3)), (14, .call [(true, .any), (true, .any), (true, .any), (true, .any)] true (I (towI ((at_ t.Feats t87.toNat).Y) v_3 ((at_ t.Base t87.toNat).Y) share)))] [3, 4, 8, 11, 12, 15, 17, 85, 86, 87] [4, 8, 15, 17, 29, 33, 852, 7201, 8401, 8402] [I share, .ref 4 0, .ref 8 0, .arr 29, .arr 33, .ref 15 0, .ref 17 0, slFeat false t.Feats, I (t.Feats.length : Int), I t87] [some (bxTrained t), some (.box [Sv (⟨#[]⟩ : ByteArray), nilA, nilA, I 0]), some (.box [Sv t.Label, slFeat true t.Base, .arr 852, I (t.Count + 1)]), some (.box [I (towI ((at_ t.Feats t87.toNat).X) v_2 ((at_ t.Base t87.toNat).X) share), I (towI ((at_ t.Feats t87.toNat).Y) v_3 ((at_ t.Base t87.toNat).Y) share), I ((at_ t.Feats t87.toNat).D)]), some (.oar [8401] 1 (((xt'.set t87.toNat ([] : List Int)).set t87.toNat list'_2).length) (oLI 8401 ((xt'.set t87.toNat ([] : List Int)).set t87.toNat list'_2))), some (.oar [7201, 8402] 1 ((yt'.set t87.toNat ([] : List Int)).length) (fun q => bif Nat.beq q t87.toNat then [.arr 7201] else (oLI 8402 (yt'.set t87.toNat ([] : List Int))) q)), some (.arr 3 fs.length (fFeat fs)), some (.arr 1 list'_3.length (fI list'_3)), some (.fam ((xt'.set t87.toNat ([] : List Int)).set t87.toNat list'_2).length 1 (mLI ((xt'.set t87.toNat ([] : List Int)).set t87.toNat list'_2)) (gLI ((xt'.set t87.toNat ([] : List Int)).set t87.toNat list'_2))), some (.fam (yt'.set t87.toNat ([] : List Int)).length 1 (mLI (yt'.set t87.toNat ([] : List Int))) (gLI (yt'.set t87.toNat ([] : List Int))))] [(0 : Int) ≤ t87 ∧ t87 < (((yt'.set t87.toNat ([] : List Int)).length) : Int), t87.toNat < (yt'.set t87.toNat ([] : List Int)).length ∧ List.drop 0 ((fun q => bif Nat.beq q t87.toNat then [.arr 7201] else (oLI 8402 (yt'.set t87.toNat ([] : List Int))) q) t87.toNat) = [.arr 7201], CallOK Tryz.prog 73 [.arr 7201] (lookO [(7201, .arr 1 ((at_ yt' t87.toNat).length) (fI (at_ yt' t87.toNat)))]) true (I v_3) (lookO [(7201, .arr 1 list'_3.length (fI list'_3))]) ∧ (((.arr 1 ((at_ yt' t87.toNat).length) (fI (at_ yt' t87.toNat)) : Ob) = .arr 1 ((at_ yt' t87.toNat).length) (fI (at_ yt' t87.toNat)) ∨ obLe noOb true (.arr 1 ((at_ yt' t87.toNat).length) (fI (at_ yt' t87.toNat))) (.arr 1 ((at_ yt' t87.toNat).length) (fI (at_ yt' t87.toNat)))) ∧ taggedO false (.arr 1 ((at_ yt' t87.toNat).length) (fI (at_ yt' t87.toNat)))) ∧ True, (0 : Int) ≤ t87 ∧ t87 < (t.Base.length : Int), Con Tryz.prog 72 [I ((at_ t.Feats t87.toNat).Y), I v_3, I ((at_ t.Base t87.toNat).Y), I share] true (I (towI ((at_ t.Feats t87.toNat).Y) v_3 ((at_ t.Base t87.toNat).Y) share)) ∧ True] ⟨⟨(by first | omega | (simp only [List.length_set]; omega)), (by first | omega | (simp only [List.length_set]; omega))⟩, ⟨(by first | omega | (simp only [List.length_set]; omega)), (by simp only [Nat.beq_refl, cond_true]; rfl)⟩, ⟨hc3, ⟨.inl rfl, fun _ _ => tagcI false _⟩, trivial⟩, ⟨(by omega), (by omega)⟩, ⟨(towards_ok ((at_ t.Feats t87.toNat).Y) v_3 ((at_ t.Base t87.toNat).Y) share (by omega) (by omega) (by omega) (by omega)), trivial⟩, trivial⟩ ?_
     refine xe_then ?_
     refine x_putrow 33 7201 8402 t87.toNat rfl rfl rfl ((by first | omega | (simp only [List.length_set]; omega))) (by first | exact Nat.le_refl _ | omega) (fun q _ => ⟨fun e => by subst e; simp only [Nat.beq_refl, cond_true], fun e => by simp only [beq_ne e, cond_false]; rfl⟩) (by kernel_rfl) ?_
     refine x_weak [] (T := [(3, I share), (4, .ref 4 0), (8, .ref 8 0), (11, .arr 29), (12, .arr 33), (15, .ref 15 0), (17, .ref 17 0), (85, slFeat false t.Feats), (86, I (t.Feats.length : Int)), (87, I t87)]) (O := [(4, bxTrained t), (8, .box [Sv (⟨#[]⟩ : ByteArray), nilA, nilA, I 0]), (15, .box [Sv t.Label, slFeat true t.Base, .arr 852, I (t.Count + 1)]), (17, .box [I (towI ((at_ t.Feats t87.toNat).X) v_2 ((at_ t.Base t87.toNat).X) share), I (towI ((at_ t.Feats t87.toNat).Y) v_3 ((at_ t.Base t87.toNat).Y) share), I ((at_ t.Feats t87.toNat).D)]), (29, .oar [8401] 1 (((xt'.set t87.toNat ([] : List Int)).set t87.toNat list'_2).length) (oLI 8401 ((xt'.set t87.toNat ([] : List Int)).set t87.toNat list'_2))), (33, .oar [8402] 1 (((yt'.set t87.toNat ([] : List Int)).set t87.toNat list'_3).length) (oLI 8402 ((yt'.set t87.toNat ([] : List Int)).set t87.toNat list'_3))), (852, .arr 3 fs.length (fFeat fs)), (8401, .fam ((xt'.set t87.toNat ([] : List Int)).set t87.toNat list'_2).length 1 (mLI ((xt'.set t87.toNat ([] : List Int)).set t87.toNat list'_2)) (gLI ((xt'.set t87.toNat ([] : List Int)).set t87.toNat list'_2))), (8402, .fam ((yt'.set t87.toNat ([] : List Int)).set t87.toNat list'_3).length 1 (mLI ((yt'.set t87.toNat ([] : List Int)).set t87.toNat list'_3)) (gLI ((yt'.set t87.toNat ([] : List Int)).set t87.toNat list'_3)))]) rfl (⟨.inl rfl, .inl rfl, .inl rfl, .inl rfl, .inl rfl, .inl rfl, .inl rfl, .inl rfl, .inl rfl, .inl rfl, trivial⟩) (⟨.inl rfl, .inl rfl, .inl rfl, .inl rfl, .inl rfl, .inr ⟨rfl, rfl, (by simp), fun i hi => .inl rfl⟩, .inl rfl, .inl rfl, .inr (fputLI ((by first | omega | (simp only [List.length_set]; omega))) (by first | rfl | (simp; done) | (simp; omega)) (fun i _ => rfl)), trivial⟩) ?_
     refine x_r [(3, .new 127), (4, .new 128)] [3, 4, 8, 11, 12, 15, 85, 86, 87] [4, 8, 15, 29, 33, 128, 8401, 8402] [I share, .ref 4 0, .ref 8 0, .arr 29, .arr 33, .ref 15 0, slFeat false t.Feats, I (t.Feats.length : Int), I t87] [some (bxTrained t), some (.box [Sv (⟨#[]⟩ : ByteArray), nilA, nilA, I 0]), some (.box [Sv t.Label, slFeat true t.Base, .arr 128, I (t.Count + 1)]), some (.oar [8401] 1 (((xt'.set t87.toNat ([] : List Int)).set t87.toNat list'_2).length) (oLI 8401 ((xt'.set t87.toNat ([] : List Int)).set t87.toNat list'_2))), some (.oar [8402] 1 (((yt'.set t87.toNat ([] : List Int)).set t87.toNat list'_3).length) (oLI 8402 ((yt'.set t87.toNat ([] : List Int)).set t87.toNat list'_3))), some (.arr 3 (fs.length + 1) (catF fs.length (fFeat fs) (litF [I (towI ((at_ t.Feats t87.toNat).X) v_2 ((at_ t.Base t87.toNat).X) share), I (towI ((at_ t.Feats t87.toNat).Y) v_3 ((at_ t.Base t87.toNat).Y) share), I ((at_ t.Feats t87.toNat).D)] 3))), some (.fam ((xt'.set t87.toNat ([] : List Int)).set t87.toNat list'_2).length 1 (mLI ((xt'.set t87.toNat ([] : List Int)).set t87.toNat list'_2)) (gLI ((xt'.set t87.toNat ([] : List Int)).set t87.toNat list'_2))), some (.fam ((yt'.set t87.toNat ([] : List Int)).set t87.toNat list'_3).length 1 (mLI ((yt'.set t87.toNat ([] : List Int)).set t87.toNat list'_3)) (gLI ((yt'.set t87.toNat ([] : List Int)).set t87.toNat list'_3)))] [(fs.length + 1) * 24 ≤ 140737488355328] ⟨(by omega), trivial⟩ ?_
     refine xe_block 3 ?_
     refine xe_then ?_
     refine x_r [] [3, 4, 8, 11, 12, 15, 85, 86, 87] [4, 8, 15, 29, 33, 128, 8401, 8402] [I share, .ref 4 0, .ref 8 0, .arr 29, .arr 33, .ref 15 0, slFeat false t.Feats, I (t.Feats.length : Int), I (t87 + 1)] [some (bxTrained t), some (.box [Sv (⟨#[]⟩ : ByteArray), nilA, nilA, I 0]), some (.box [Sv t.Label, slFeat true t.Base, .arr 128, I (t.Count + 1)]), some (.oar [8401] 1 (((xt'.set t87.toNat ([] : List Int)).set t87.toNat list'_2).length) (oLI 8401 ((xt'.set t87.toNat ([] : List Int)).set t87.toNat list'_2))), some (.oar [8402] 1 (((yt'.set t87.toNat ([] : List Int)).set t87.toNat list'_3).length) (oLI 8402 ((yt'.set t87.toNat ([] : List Int)).set t87.toNat list'_3))), some (.arr 3 (fs.length + 1) (catF fs.length (fFeat fs) (litF [I (towI ((at_ t.Feats t87.toNat).X) v_2 ((at_ t.Base t87.toNat).X) share), I (towI ((at_ t.Feats t87.toNat).Y) v_3 ((at_ t.Base t87.toNat).Y) share), I ((at_ t.Feats t87.toNat).D)] 3))), some (.fam ((xt'.set t87.toNat ([] : List Int)).set t87.toNat list'_2).length 1 (mLI ((xt'.set t87.toNat ([] : List Int)).set t87.toNat list'_2)) (gLI ((xt'.set t87.toNat ([] : List Int)).set t87.toNat list'_2))), some (.fam ((yt'.set t87.toNat ([] : List Int)).set t87.toNat list'_3).length 1 (mLI ((yt'.set t87.toNat ([] : List Int)).set t87.toNat list'_3)) (gLI ((yt'.set t87.toNat ([] : List Int)).set t87.toNat list'_3)))] [inR .i64 (t87 + 1)] ⟨(inR_i64 (by omega) (by omega)), trivial⟩ ?_
     refine xe_weak [(852, 128)] (T := [(3, I share), (4, .ref 4 0), (8, .ref 8 0), (11, .arr 29), (12, .arr 33), (15, .ref 15 0), (85, slFeat false t.Feats), (86, I (t.Feats.length : Int)), (87, I (t87 + 1))]) (O := [(4, bxTrained t), (8, .box [Sv (⟨#[]⟩ : ByteArray), nilA, nilA, I 0]), (15, .box [Sv t.Label, slFeat true t.Base, .arr 852, I (t.Count + 1)]), (29, .oar [8401] 1 (((xt'.set t87.toNat ([] : List Int)).set t87.toNat list'_2).length) (oLI 8401 ((xt'.set t87.toNat ([] : List Int)).set t87.toNat list'_2))), (33, .oar [8402] 1 (((yt'.set t87.toNat ([] : List Int)).set t87.toNat list'_3).length) (oLI 8402 ((yt'.set t87.toNat ([] : List Int)).set t87.toNat list'_3))), (852, .arr 3 ((fs ++ [(Feat.mk (towI ((at_ t.Feats t87.toNat).X) v_2 ((at_ t.Base t87.toNat).X) share) (towI ((at_ t.Feats t87.toNat).Y) v_3 ((at_ t.Base t87.toNat).Y) share) ((at_ t.Feats t87.toNat).D))]).length) (fFeat (fs ++ [(Feat.mk (towI ((at_ t.Feats t87.toNat).X) v_2 ((at_ t.Base t87.toNat).X) share) (towI ((at_ t.Feats t87.toNat).Y) v_3 ((at_ t.Base t87.toNat).Y) share) ((at_ t.Feats t87.toNat).D))]))), (8401, .fam ((xt'.set t87.toNat ([] : List Int)).set t87.toNat list'_2).length 1 (mLI ((xt'.set t87.toNat ([] : List Int)).set t87.toNat list'_2)) (gLI ((xt'.set t87.toNat ([] : List Int)).set t87.toNat list'_2))), (8402, .fam ((yt'.set t87.toNat ([] : List Int)).set t87.toNat list'_3).length 1 (mLI ((yt'.set t87.toNat ([] : List Int)).set t87.toNat list'_3)) (gLI ((yt'.set t87.toNat ([] : List Int)).set t87.toNat list'_3)))]) rfl (⟨.inl rfl, .inl rfl, .inl rfl, .inl rfl, .inl rfl, .inl rfl, .inl rfl, .inl rfl, .inl rfl, trivial⟩) (⟨.inl rfl, .inl rfl, .inl rfl, .inl rfl, .inl rfl, .inr ⟨rfl, (by first | rfl | (simp; done) | (simp; omega) | omega), fun i_ hi_ => .inl (cat_snoc (enc := cFeat) (xs := fs) rfl i_ hi_)⟩, .inl rfl, .inl rfl, trivial⟩) (xe_again ((t87 + 1), (fs ++ [(Feat.mk (towI ((at_ t.Feats t87.toNat).X) v_2 ((at_ t.Base t87.toNat).X) share) (towI ((at_ t.Feats t87.toNat).Y) v_3 ((at_ t.Base t87.toNat).Y) share) ((at_ t.Feats t87.toNat).D))]), ((xt'.set t87.toNat ([] : List Int)).set t87.toNat list'_2), ((yt'.set t87.toNat ([] : List Int)).set t87.toNat list'_3)) rfl (show (0 ≤ (t87 + 1) ∧ (t87 + 1) ≤ (t.Feats.length : Int)) ∧ (tabR Feat.X v_1 sample (t87 + 1).toNat t.Feats.length ((xt'.set t87.toNat ([] : List Int)).set t87.toNat list'_2)) ∧ (tabR Feat.Y v_1 sample (t87 + 1).toNat t.Feats.length ((yt'.set t87.toNat ([] : List Int)).set t87.toNat list'_3)) ∧ ((fs ++ [(Feat.mk (towI ((at_ t.Feats t87.toNat).X) v_2 ((at_ t.Base t87.toNat).X) share) (towI ((at_ t.Feats t87.toNat).Y) v_3 ((at_ t.Base t87.toNat).Y) share) ((at_ t.Feats t87.toNat).D))]) = adpN t sample band share (t87 + 1).toNat) ∧ True from ⟨(by omega), (by rw [show (t87 + 1).toNat = t87.toNat + 1 from by omega]; exact tabR_next hxt'), (by rw [show (t87 + 1).toNat = t87.toNat + 1 from by omega]; exact tabR_next hyt'), (by (rw [show (t87 + 1).toNat = t87.toNat + 1 from by omega, hfs]; exact adpN_succ (by rw [had, hix, hMX, hMY]))), trivial⟩) (by first | (show (((t.Feats.length : Int) - (t87 + 1)).toNat : Nat) < ((t.Feats.length : Int) - t87).toNat; omega) | (dsimp only; omega)))
    have hie : t87.toNat = t.Feats.length := by omega
    refine x_r [(0, .dec false)] [3, 4, 8, 11, 12, 15, 85, 86, 87, 88] [4, 8, 15, 29, 33, 852, 8401, 8402] [I share, .ref 4 0, .ref 8 0, .arr 29, .arr 33, .ref 15 0, slFeat false t.Feats, I (t.Feats.length : Int), I t87, Bv false] [some (bxTrained t), some (.box [Sv (⟨#[]⟩ : ByteArray), nilA, nilA, I 0]), some (.box [Sv t.Label, slFeat true t.Base, .arr 852, I (t.Count + 1)]), some (.oar [8401] 1 xt'.length (oLI 8401 xt')), some (.oar [8402] 1 yt'.length (oLI 8402 yt')), some (.arr 3 fs.length (fFeat fs)), some (.fam xt'.length 1 (mLI xt') (gLI xt')), some (.fam yt'.length 1 (mLI yt') (gLI yt'))] [¬ (t87 < (t.Feats.length : Int))] ⟨h2, trivial⟩ ?_
    refine xe_then ?_
    refine x_seq ?_
    refine x_false rfl ?_
    refine x_exit ?_
    refine xe_exit_then ?_
    refine xe_loop_exit ?_
    refine xe_exit_same ?_
    refine xe_then ?_
    refine xR [] [8] [8, 852] [.ref 8 0] [some (.box [Sv t.Label, slFeat true t.Base, .arr 852, I (t.Count + 1)]), some (.arr 3 fs.length (fFeat fs))] [] trivial ?_
    refine x_ret ?_
    refine xe_end (Trained.mk t.Label t.Base fs (t.Count + 1)) (show ((Trained.mk t.Label t.Base fs (t.Count + 1)) = adpT t sample band share) ∧ (True) from ⟨(by (unfold adpT; rw [hfs, hie])), trivial⟩) (trivial) (.agg [Sv t.Label, slFeat true t.Base, .arr 852, I (t.Count + 1)]) (by kernel_rfl) (.inr ⟨rfl, ⟨⟨(fun _ => rfl), rfl, rfl, fun i _ => .inl rfl⟩, ⟨⟨(fun _ => rfl), rfl, rfl, fun i _ => .inl rfl⟩, ⟨rfl, rfl⟩⟩⟩⟩) (fun _ => rfl) (fun _ => (by simp [tagged, taggedL, tagFeat]))
  obtain ⟨v, ⟨hh0, _⟩, hc⟩ := hh
  exact ⟨v, hh0, hc⟩


-- impl.startTrained
theorem startTrained_ok (t : Template) (hl : t.Feats.length ≤ 72) : Con Tryz.prog 37 [agTemplate t] true (agTrainedT (Trained.mk t.Label t.Feats t.Feats 0)) := by
  refine fn_ok (fn := Tryz.f37) (nt := 12) Tryz.func37 rfl rfl rfl rfl (by simp [taggedL, tagged, tagFeat]) fun B hB => ?_
  refine aw_lens (x := agTemplate t) 0 rfl (fun len_t => ?_)
  simp [LenOK, LenL, cFeat, fFeat, slFeat] at len_t
  refine aR [(0, .new 1), (1, .new 2)] [1, 2] [1, 2] [.ref 1 0, .ref 2 0] [some (bxTemplate t), some (.box [Sv (⟨#[]⟩ : ByteArray), nilA, nilA, I 0])] [] hB trivial ?_
  refine aR [(4, .call [(true, .any)] true (slFeat true t.Feats)), (7, .call [(true, .any)] true (slFeat true t.Feats))] [2] [2] [.ref 2 0] [some (.box [Sv t.Label, slFeat true t.Feats, slFeat true t.Feats, I 0])] [Con Tryz.prog 36 [slFeat false t.Feats] true (slFeat true t.Feats) ∧ True, Con Tryz.prog 36 [slFeat false t.Feats] true (slFeat true t.Feats) ∧ True] hB ⟨⟨(cloneT_ok t.Feats (by omega)), trivial⟩, ⟨(cloneT_ok t.Feats (by omega)), trivial⟩, trivial⟩ ?_
  refine aw_ret ?_
  refine ae_ret hB (.agg [Sv t.Label, slFeat true t.Feats, slFeat true t.Feats, I 0]) (by kernel_rfl) (.inr ⟨(by first | rfl | (simp [valOf]; done) | (simp [valOf]; omega)), ⟨⟨(fun _ => rfl), rfl, (by first | rfl | (simp; done) | (simp; omega) | omega), fun i_ hi_ => .inl (by first | rfl | fail)⟩, ⟨⟨(fun _ => rfl), rfl, (by first | rfl | (simp; done) | (simp; omega) | omega), fun i_ hi_ => .inl (by first | rfl | fail)⟩, ⟨(by first | rfl | (simp [valOf]; done) | (simp [valOf]; omega)), rfl⟩⟩⟩⟩) rfl (fun _ => (by simp [tagged, taggedL, tagFeat]))


-- impl.LearnSample
set_option maxHeartbeats 4000000 in
theorem LearnSample_t (w : Writer) (label : ByteArray) (sample : List Feat) (share : Int) (hwk : okWriter' w = true) (oks : okFeats sample 72 = true) (okl : okLabel label = true) (hsh : 0 ≤ share ∧ share ≤ 100) (h40 : w.Trained.length < 40) (okw : okWriter w) (okz : label.size ≤ 9223372036854775807) : ∃ (v : Writer) (ix : Int) (c : Int), (v = lrnW w label sample share) ∧ (ix = lrnA w label sample) ∧ (c = 0) ∧ Con Tryz.prog 8 [agWriter w, Sv label, slFeat false sample, I share] true (.tup [agWriterT v, I ix, I c]) := by
  have hw := okW_iff.1 hwk
  have hon0 := okFeats_n oks
  have hh : ∃ r : Writer × Int × Int, ((r.1 = lrnW w label sample share) ∧ (r.2.1 = lrnA w label sample) ∧ (r.2.2 = 0) ∧ (True)) ∧ CallOK Tryz.prog 8 [agWriter w, Sv label, slFeat false sample, I share] (lookO []) true (.tup [agWriterT r.1, I r.2.1, I r.2.2]) (lookO []) := by
    refine fn_okX (Φ := fun r : Writer × Int × Int => (r.1 = lrnW w label sample share) ∧ (r.2.1 = lrnA w label sample) ∧ (r.2.2 = 0) ∧ (True)) [] (fun r => []) (fn := Tryz.f8) (nt := 101) Tryz.func8 rfl rfl (args := [agWriter w, Sv label, slFeat false sample, I share]) rfl (allcons (.inl ⟨rfl, by simp [tagged, taggedL, tagTrained]⟩) (allcons (.inl ⟨rfl, trivial⟩) (allcons (.inl ⟨rfl, tagFeat false _⟩) (allcons (.inl ⟨rfl, trivial⟩) allnil)))) (res := fun r => .tup [agWriterT r.1, I r.2.1, I r.2.2]) ?_
    refine xR [(0, .new 4), (1, .new 8)] [1, 2, 3, 4, 8] [4, 8] [Sv label, slFeat false sample, I share, .ref 4 0, .ref 8 0] [some (bxWriter w), some (.box [I 0, nilA])] [] trivial ?_
    refine x_seq ?_
    refine x_block ?_
    refine xR [(1, .call [(true, .any)] true (Bv true)), (5, .call [(true, .any)] true (Bv true))] [1, 2, 3, 4, 8, 15] [4, 8] [Sv label, slFeat false sample, I share, .ref 4 0, .ref 8 0, Bv false] [some (bxWriter w), some (.box [I 0, nilA])] [Con Tryz.prog 30 [agWriter w] true (Bv true) ∧ True, Con Tryz.prog 31 [slFeat false sample] true (Bv true) ∧ True] ⟨⟨(con_bool hwk (ValidWriter_ok w okw)), trivial⟩, ⟨(con_bool oks (ValidSeq_ok sample)), trivial⟩, trivial⟩ ?_
    refine x_false rfl ?_
    refine xR [(1, .call [(true, .any)] true (Bv true))] [1, 2, 3, 4, 8, 25] [4, 8] [Sv label, slFeat false sample, I share, .ref 4 0, .ref 8 0, Bv false] [some (bxWriter w), some (.box [I 0, nilA])] [Con Tryz.prog 32 [Sv label] true (Bv true) ∧ True] ⟨⟨(con_bool okl (implIsLabel_ok label okz)), trivial⟩, trivial⟩ ?_
    refine x_false rfl ?_
    refine xR [(1, .call [(true, .any), (true, .any), (true, .any)] true (Bv true))] [1, 2, 3, 4, 8, 30] [4, 8] [Sv label, slFeat false sample, I share, .ref 4 0, .ref 8 0, Bv false] [some (bxWriter w), some (.box [I 0, nilA])] [Con Tryz.prog 33 [I share, I 0, I 100] true (Bv true) ∧ True] ⟨⟨(con_bool (inB_iff.2 hsh) (within_ok share 0 100)), trivial⟩, trivial⟩ ?_
    refine x_false rfl ?_
    refine x_skip ?_
    refine xe_block 0 ?_
    refine xe_then ?_
    refine x_seq ?_
    obtain ⟨v_1, hx1_0, hc1⟩ := learner_ok w label sample hw oks
    have hkk : v_1 = pkI w label sample := hx1_0
    have hkb := pkI_bd w label sample
    rw [← hkk] at hkb
    refine x_r [(3, .call [(true, .any), (true, .any), (true, .any)] true (I v_1))] [1, 2, 3, 4, 8, 11] [4, 8] [Sv label, slFeat false sample, I share, .ref 4 0, .ref 8 0, I v_1] [some (bxWriter w), some (.box [I 0, nilA])] [Con Tryz.prog 34 [agWriter w, Sv label, slFeat false sample] true (I v_1) ∧ True] ⟨⟨hc1, trivial⟩, trivial⟩ ?_
    refine xe_then ?_
    refine x_seq ?_
    refine x_seq ?_
    by_cases h1 : v_1 < 0
    ·refine x_r [(1, .dec true), (6, .dec false)] [1, 2, 3, 4, 8, 11, 46] [4, 8] [Sv label, slFeat false sample, I share, .ref 4 0, .ref 8 0, I v_1, Bv false] [some (bxWriter w), some (.box [I 0, nilA])] [v_1 < 0, ¬ (40 ≤ (w.Trained.length : Int))] ⟨h1, (by omega), trivial⟩ ?_
     refine xe_then ?_
     refine x_false rfl ?_
     refine x_skip ?_
     refine xe_then ?_
     refine xR [(3, .new 12)] [1, 2, 3, 4, 8, 11, 12] [4, 8, 12] [Sv label, slFeat false sample, I share, .ref 4 0, .ref 8 0, I v_1, .ref 12 0] [some (bxWriter w), some (.box [I 0, nilA]), some (.box [I w.Band, nilA])] [] trivial ?_
     refine x_seq ?_
     refine xR [] [1, 2, 3, 4, 8, 11, 12, 52, 53, 54] [4, 8, 12] [Sv label, slFeat false sample, I share, .ref 4 0, .ref 8 0, I v_1, .ref 12 0, slTrained false w.Trained, I (w.Trained.length : Int), I 0] [some (bxWriter w), some (.box [I 0, nilA]), some (.box [I w.Band, nilA])] [] trivial ?_
     refine x_block ?_
     refine x_nilC 12 1 821 4 (fun _ => []) rfl (by kernel_rfl) ?_
     refine x_weak [] (T := [(1, Sv label), (2, slFeat false sample), (3, I share), (4, .ref 4 0), (8, .ref 8 0), (11, I v_1), (12, .ref 12 0), (52, slTrained false w.Trained), (53, I (w.Trained.length : Int)), (54, I 0)]) (O := [(4, bxWriter w), (8, .box [I 0, nilA]), (12, .box [I w.Band, .arr 821]), (821, .arr 4 (([] : List Trained).length) (fTrained true ([] : List Trained)))]) rfl (⟨.inl rfl, .inl rfl, .inl rfl, .inl rfl, .inl rfl, .inl rfl, .inl rfl, .inl rfl, .inl rfl, .inl rfl, trivial⟩) (⟨.inl rfl, .inl rfl, .inl rfl, .inr ⟨rfl, (by first | rfl | (simp; done) | (simp; omega) | omega), fun i_ hi_ => absurd hi_ (Nat.not_lt_zero _)⟩, trivial⟩) ?_
     refine x_loop (X := Int × (List Trained)) (fun x => mkS [(1, Sv label), (2, slFeat false sample), (3, I share), (4, .ref 4 0), (8, .ref 8 0), (11, I v_1), (12, .ref 12 0), (52, slTrained false w.Trained), (53, I (w.Trained.length : Int)), (54, I x.1)] [(4, bxWriter w), (8, .box [I 0, nilA]), (12, .box [I w.Band, .arr 821]), (821, .arr 4 x.2.length (fTrained true x.2))]) (fun x => (0 ≤ x.1 ∧ x.1 ≤ (w.Trained.length : Int)) ∧ (x.2 = lrnP w sample share v_1 x.1.toNat) ∧ True) (fun x => ((w.Trained.length : Int) - x.1).toNat) (0, ([] : List Trained)) rfl (show (0 ≤ (0 : Int) ∧ (0 : Int) ≤ (w.Trained.length : Int)) ∧ (([] : List Trained) = lrnP w sample share v_1 (0 : Int).toNat) ∧ True from ⟨(by omega), (by rfl), trivial⟩) (fun x hI => ?_)
     obtain ⟨t54, ts⟩ := x
     obtain ⟨hi0, hts, _⟩ : (0 ≤ t54 ∧ t54 ≤ (w.Trained.length : Int)) ∧ (ts = lrnP w sample share v_1 t54.toNat) ∧ True := hI
     show XW _ _ _ _ (mkS [(1, Sv label), (2, slFeat false sample), (3, I share), (4, .ref 4 0), (8, .ref 8 0), (11, I v_1), (12, .ref 12 0), (52, slTrained false w.Trained), (53, I (w.Trained.length : Int)), (54, I t54)] [(4, bxWriter w), (8, .box [I 0, nilA]), (12, .box [I w.Band, .arr 821]), (821, .arr 4 ts.length (fTrained true ts))]) _ _
     refine x_seq ?_
     by_cases h2 : t54 < (w.Trained.length : Int)
     ·have hi : t54.toNat < w.Trained.length := by omega
      have hix : ((t54.toNat : Nat) : Int) = t54 := by omega
      have htr := hw.2.2 _ hi
      have htn := okFeats_n (okTr_iff.1 htr).2.2.1
      have htb := okFeats_n (okTr_iff.1 htr).2.1
      have hon := okFeats_n oks
      have hnx : (t54 + 1).toNat = t54.toNat + 1 := by omega
      have htl : ts.length = t54.toNat := by rw [hts, lrnP_len]
      refine x_r [(0, .dec true)] [1, 2, 3, 4, 8, 11, 12, 52, 53, 54, 55] [4, 8, 12, 821] [Sv label, slFeat false sample, I share, .ref 4 0, .ref 8 0, I v_1, .ref 12 0, slTrained false w.Trained, I (w.Trained.length : Int), I t54, Bv true] [some (bxWriter w), some (.box [I 0, nilA]), some (.box [I w.Band, .arr 821]), some (.arr 4 ts.length (fTrained true ts))] [t54 < (w.Trained.length : Int)] ⟨h2, trivial⟩ ?_
      refine xe_then ?_
      refine x_seq ?_
      refine x_true rfl ?_
      refine x_skip ?_
      refine xe_then ?_
      refine x_seq ?_
      refine x_block ?_
      refine xR [(3, .new 14)] [1, 2, 3, 4, 8, 11, 12, 13, 14, 52, 53, 54] [4, 8, 12, 14, 821] [Sv label, slFeat false sample, I share, .ref 4 0, .ref 8 0, I v_1, .ref 12 0, I t54, .ref 14 0, slTrained false w.Trained, I (w.Trained.length : Int), I t54] [some (bxWriter w), some (.box [I 0, nilA]), some (.box [I w.Band, .arr 821]), some (bxTrained (at_ w.Trained t54.toNat)), some (.arr 4 ts.length (fTrained true ts))] [(0 : Int) ≤ t54 ∧ t54 < (w.Trained.length : Int)] ⟨⟨(by omega), (by omega)⟩, trivial⟩ ?_
      refine x_seq ?_
      refine x_seq ?_
      by_cases h3 : t54 = v_1
      ·have hkt : t54 = v_1 := h3
       have hlq := hkb.2 (by omega)
       rw [show v_1.toNat = t54.toNat from by omega] at hlq
       have hlq := lrn_iff.1 hlq
       refine x_r [(2, .dec true)] [1, 2, 3, 4, 8, 11, 12, 14, 52, 53, 54, 61] [4, 8, 12, 14, 821] [Sv label, slFeat false sample, I share, .ref 4 0, .ref 8 0, I v_1, .ref 12 0, .ref 14 0, slTrained false w.Trained, I (w.Trained.length : Int), I t54, Bv true] [some (bxWriter w), some (.box [I 0, nilA]), some (.box [I w.Band, .arr 821]), some (bxTrained (at_ w.Trained t54.toNat)), some (.arr 4 ts.length (fTrained true ts))] [t54 = v_1] ⟨h3, trivial⟩ ?_
       refine xe_then ?_
       refine x_true rfl ?_
       obtain ⟨v_2, hx2_0, hc2⟩ := adapted_ok (at_ w.Trained t54.toNat) sample w.Band share htr oks hlq.2.2.1 hlq.2.2.2 hsh hlq.2.1
       have hvl : v_2.Base.length ≤ 72 ∧ v_2.Feats.length ≤ 72 := by rw [hx2_0, adpT_len]; exact ⟨by have := htb; exact (show (at_ w.Trained t54.toNat).Base.length ≤ 72 by omega), by omega⟩
       have hvp := lrnP_y (w := w) (s := sample) (share := share) (n := t54.toNat) (y := v_2) (hix.trans hkt) (by rw [hx2_0])
       refine x_r [(5, .call [(true, .any), (true, .any), (true, .any), (true, .any)] true (agTrainedT v_2))] [1, 2, 3, 4, 8, 11, 12, 14, 52, 53, 54] [4, 8, 12, 14, 821] [Sv label, slFeat false sample, I share, .ref 4 0, .ref 8 0, I v_1, .ref 12 0, .ref 14 0, slTrained false w.Trained, I (w.Trained.length : Int), I t54] [some (bxWriter w), some (.box [I 0, nilA]), some (.box [I w.Band, .arr 821]), some (bxTrainedT v_2), some (.arr 4 ts.length (fTrained true ts))] [Con Tryz.prog 35 [agTrained (at_ w.Trained t54.toNat), slFeat false sample, I w.Band, I share] true (agTrainedT v_2) ∧ True] ⟨⟨hc2, trivial⟩, trivial⟩ ?_
       refine xe_then ?_
       refine x_r [(6, .call [(false, slFeat false v_2.Base)] true (slFeat true v_2.Base)), (9, .call [(false, slFeat false v_2.Feats)] true (slFeat true v_2.Feats)), (13, .new 81), (14, .new 82)] [1, 2, 3, 4, 8, 11, 12, 52, 53, 54] [4, 8, 12, 82] [Sv label, slFeat false sample, I share, .ref 4 0, .ref 8 0, I v_1, .ref 12 0, slTrained false w.Trained, I (w.Trained.length : Int), I t54] [some (bxWriter w), some (.box [I 0, nilA]), some (.box [I w.Band, .arr 82]), some (.arr 4 (ts.length + 1) (catF ts.length (fTrained true ts) (litF [Sv v_2.Label, slFeat true v_2.Base, slFeat true v_2.Feats, I v_2.Count] 4)))] [Con Tryz.prog 36 [slFeat false v_2.Base] true (slFeat true v_2.Base) ∧ ((false = true → true = true) ∧ 3 = 3 ∧ v_2.Base.length = v_2.Base.length ∧ ∀ i_, i_ < v_2.Base.length → (fFeat v_2.Base) i_ = (fFeat v_2.Base) i_ ∨ (AV.idsL ((fFeat v_2.Base) i_) = [] ∧ leL (fun _ => none) false ((fFeat v_2.Base) i_) ((fFeat v_2.Base) i_))) ∧ True, Con Tryz.prog 36 [slFeat false v_2.Feats] true (slFeat true v_2.Feats) ∧ ((false = true → true = true) ∧ 3 = 3 ∧ v_2.Feats.length = v_2.Feats.length ∧ ∀ i_, i_ < v_2.Feats.length → (fFeat v_2.Feats) i_ = (fFeat v_2.Feats) i_ ∨ (AV.idsL ((fFeat v_2.Feats) i_) = [] ∧ leL (fun _ => none) false ((fFeat v_2.Feats) i_) ((fFeat v_2.Feats) i_))) ∧ True, (ts.length + 1) * 72 ≤ 140737488355328] ⟨⟨(cloneT_ok v_2.Base (by omega)), ⟨(fun h => by cases h), rfl, rfl, fun i _ => .inl rfl⟩, trivial⟩, ⟨(cloneT_ok v_2.Feats (by omega)), ⟨(fun h => by cases h), rfl, rfl, fun i _ => .inl rfl⟩, trivial⟩, (by omega), trivial⟩ ?_
       refine xe_block 2 ?_
       refine xe_then ?_
       refine x_r [] [1, 2, 3, 4, 8, 11, 12, 52, 53, 54] [4, 8, 12, 82] [Sv label, slFeat false sample, I share, .ref 4 0, .ref 8 0, I v_1, .ref 12 0, slTrained false w.Trained, I (w.Trained.length : Int), I (t54 + 1)] [some (bxWriter w), some (.box [I 0, nilA]), some (.box [I w.Band, .arr 82]), some (.arr 4 (ts.length + 1) (catF ts.length (fTrained true ts) (litF [Sv v_2.Label, slFeat true v_2.Base, slFeat true v_2.Feats, I v_2.Count] 4)))] [inR .i64 (t54 + 1)] ⟨(inR_i64 (by omega) (by omega)), trivial⟩ ?_
       refine xe_weak [(821, 82)] (T := [(1, Sv label), (2, slFeat false sample), (3, I share), (4, .ref 4 0), (8, .ref 8 0), (11, I v_1), (12, .ref 12 0), (52, slTrained false w.Trained), (53, I (w.Trained.length : Int)), (54, I (t54 + 1))]) (O := [(4, bxWriter w), (8, .box [I 0, nilA]), (12, .box [I w.Band, .arr 821]), (821, .arr 4 ((ts ++ [v_2]).length) (fTrained true (ts ++ [v_2])))]) rfl (⟨.inl rfl, .inl rfl, .inl rfl, .inl rfl, .inl rfl, .inl rfl, .inl rfl, .inl rfl, .inl rfl, .inl rfl, trivial⟩) (⟨.inl rfl, .inl rfl, .inl rfl, .inr ⟨rfl, (by first | rfl | (simp; done) | (simp; omega) | omega), fun i_ hi_ => .inl (cat_snoc (enc := (cTrained true)) (xs := ts) rfl i_ hi_)⟩, trivial⟩) (xe_again ((t54 + 1), (ts ++ [v_2])) rfl (show (0 ≤ (t54 + 1) ∧ (t54 + 1) ≤ (w.Trained.length : Int)) ∧ ((ts ++ [v_2]) = lrnP w sample share v_1 (t54 + 1).toNat) ∧ True from ⟨(by omega), (by rw [hnx, hts]; exact hvp), trivial⟩) (by first | (show (((w.Trained.length : Int) - (t54 + 1)).toNat : Nat) < ((w.Trained.length : Int) - t54).toNat; omega) | (dsimp only; omega)))
      have hvp := lrnP_n (w := w) (s := sample) (share := share) (n := t54.toNat) (y := at_ w.Trained t54.toNat) (fun q => h3 (hix.symm.trans q)) rfl
      refine x_r [(2, .dec false)] [1, 2, 3, 4, 8, 11, 12, 14, 52, 53, 54, 61] [4, 8, 12, 14, 821] [Sv label, slFeat false sample, I share, .ref 4 0, .ref 8 0, I v_1, .ref 12 0, .ref 14 0, slTrained false w.Trained, I (w.Trained.length : Int), I t54, Bv false] [some (bxWriter w), some (.box [I 0, nilA]), some (.box [I w.Band, .arr 821]), some (bxTrained (at_ w.Trained t54.toNat)), some (.arr 4 ts.length (fTrained true ts))] [¬ (t54 = v_1)] ⟨h3, trivial⟩ ?_
      refine xe_then ?_
      refine x_false rfl ?_
      refine x_skip ?_
      refine xe_then ?_
      refine x_r [(6, .call [(true, .any)] true (slFeat true ((at_ w.Trained t54.toNat).Base))), (9, .call [(true, .any)] true (slFeat true ((at_ w.Trained t54.toNat).Feats))), (13, .new 81), (14, .new 82)] [1, 2, 3, 4, 8, 11, 12, 52, 53, 54] [4, 8, 12, 82] [Sv label, slFeat false sample, I share, .ref 4 0, .ref 8 0, I v_1, .ref 12 0, slTrained false w.Trained, I (w.Trained.length : Int), I t54] [some (bxWriter w), some (.box [I 0, nilA]), some (.box [I w.Band, .arr 82]), some (.arr 4 (ts.length + 1) (catF ts.length (fTrained true ts) (litF [Sv ((at_ w.Trained t54.toNat).Label), slFeat true ((at_ w.Trained t54.toNat).Base), slFeat true ((at_ w.Trained t54.toNat).Feats), I ((at_ w.Trained t54.toNat).Count)] 4)))] [Con Tryz.prog 36 [slFeat false ((at_ w.Trained t54.toNat).Base)] true (slFeat true ((at_ w.Trained t54.toNat).Base)) ∧ True, Con Tryz.prog 36 [slFeat false ((at_ w.Trained t54.toNat).Feats)] true (slFeat true ((at_ w.Trained t54.toNat).Feats)) ∧ True, (ts.length + 1) * 72 ≤ 140737488355328] ⟨⟨(cloneT_ok ((at_ w.Trained t54.toNat).Base) (by omega)), trivial⟩, ⟨(cloneT_ok ((at_ w.Trained t54.toNat).Feats) (by omega)), trivial⟩, (by omega), trivial⟩ ?_
      refine xe_block 2 ?_
      refine xe_then ?_
      refine x_r [] [1, 2, 3, 4, 8, 11, 12, 52, 53, 54] [4, 8, 12, 82] [Sv label, slFeat false sample, I share, .ref 4 0, .ref 8 0, I v_1, .ref 12 0, slTrained false w.Trained, I (w.Trained.length : Int), I (t54 + 1)] [some (bxWriter w), some (.box [I 0, nilA]), some (.box [I w.Band, .arr 82]), some (.arr 4 (ts.length + 1) (catF ts.length (fTrained true ts) (litF [Sv ((at_ w.Trained t54.toNat).Label), slFeat true ((at_ w.Trained t54.toNat).Base), slFeat true ((at_ w.Trained t54.toNat).Feats), I ((at_ w.Trained t54.toNat).Count)] 4)))] [inR .i64 (t54 + 1)] ⟨(inR_i64 (by omega) (by omega)), trivial⟩ ?_
      refine xe_weak [(821, 82)] (T := [(1, Sv label), (2, slFeat false sample), (3, I share), (4, .ref 4 0), (8, .ref 8 0), (11, I v_1), (12, .ref 12 0), (52, slTrained false w.Trained), (53, I (w.Trained.length : Int)), (54, I (t54 + 1))]) (O := [(4, bxWriter w), (8, .box [I 0, nilA]), (12, .box [I w.Band, .arr 821]), (821, .arr 4 ((ts ++ [(at_ w.Trained t54.toNat)]).length) (fTrained true (ts ++ [(at_ w.Trained t54.toNat)])))]) rfl (⟨.inl rfl, .inl rfl, .inl rfl, .inl rfl, .inl rfl, .inl rfl, .inl rfl, .inl rfl, .inl rfl, .inl rfl, trivial⟩) (⟨.inl rfl, .inl rfl, .inl rfl, .inr ⟨rfl, (by first | rfl | (simp; done) | (simp; omega) | omega), fun i_ hi_ => .inl (cat_snoc (enc := (cTrained true)) (xs := ts) rfl i_ hi_)⟩, trivial⟩) (xe_again ((t54 + 1), (ts ++ [(at_ w.Trained t54.toNat)])) rfl (show (0 ≤ (t54 + 1) ∧ (t54 + 1) ≤ (w.Trained.length : Int)) ∧ ((ts ++ [(at_ w.Trained t54.toNat)]) = lrnP w sample share v_1 (t54 + 1).toNat) ∧ True from ⟨(by omega), (by rw [hnx, hts]; exact hvp), trivial⟩) (by first | (show (((w.Trained.length : Int) - (t54 + 1)).toNat : Nat) < ((w.Trained.length : Int) - t54).toNat; omega) | (dsimp only; omega)))
     have hie : t54.toNat = w.Trained.length := by omega
     rw [hie] at hts
     have htl : ts.length = w.Trained.length := by rw [hts, lrnP_len]
     refine x_r [(0, .dec false)] [1, 2, 3, 4, 8, 11, 12, 52, 53, 54, 55] [4, 8, 12, 821] [Sv label, slFeat false sample, I share, .ref 4 0, .ref 8 0, I v_1, .ref 12 0, slTrained false w.Trained, I (w.Trained.length : Int), I t54, Bv false] [some (bxWriter w), some (.box [I 0, nilA]), some (.box [I w.Band, .arr 821]), some (.arr 4 ts.length (fTrained true ts))] [¬ (t54 < (w.Trained.length : Int))] ⟨h2, trivial⟩ ?_
     refine xe_then ?_
     refine x_seq ?_
     refine x_false rfl ?_
     refine x_exit ?_
     refine xe_exit_then ?_
     refine xe_loop_exit ?_
     refine xe_exit_same ?_
     refine xe_then ?_
     refine x_seq ?_
     refine xR [(1, .dec true)] [1, 2, 8, 11, 12, 86] [8, 12, 821] [Sv label, slFeat false sample, .ref 8 0, I v_1, .ref 12 0, Bv true] [some (.box [I 0, nilA]), some (.box [I w.Band, .arr 821]), some (.arr 4 ts.length (fTrained true ts))] [v_1 < 0] ⟨h1, trivial⟩ ?_
     refine x_true rfl ?_
     refine xR [] [1, 2, 8, 11, 12] [8, 12, 821] [Sv label, slFeat false sample, .ref 8 0, I (ts.length : Int), .ref 12 0] [some (.box [I 0, nilA]), some (.box [I w.Band, .arr 821]), some (.arr 4 ts.length (fTrained true ts))] [] trivial ?_
     refine x_r [(5, .call [(true, .any)] true (agTrainedT (Trained.mk (Template.mk label sample).Label (Template.mk label sample).Feats (Template.mk label sample).Feats 0))), (6, .new 96), (7, .new 97)] [8, 11, 12] [8, 12, 97] [.ref 8 0, I (ts.length : Int), .ref 12 0] [some (.box [I 0, nilA]), some (.box [I w.Band, .arr 97]), some (.arr 4 (ts.length + 1) (catF ts.length (fTrained true ts) (litF [Sv ((Trained.mk (Template.mk label sample).Label (Template.mk label sample).Feats (Template.mk label sample).Feats 0).Label), slFeat true ((Trained.mk (Template.mk label sample).Label (Template.mk label sample).Feats (Template.mk label sample).Feats 0).Base), slFeat true ((Trained.mk (Template.mk label sample).Label (Template.mk label sample).Feats (Template.mk label sample).Feats 0).Feats), I ((Trained.mk (Template.mk label sample).Label (Template.mk label sample).Feats (Template.mk label sample).Feats 0).Count)] 4)))] [Con Tryz.prog 37 [.agg [Sv label, slFeat false sample]] true (agTrainedT (Trained.mk (Template.mk label sample).Label (Template.mk label sample).Feats (Template.mk label sample).Feats 0)) ∧ True, (ts.length + 1) * 72 ≤ 140737488355328] ⟨⟨(startTrained_ok (Template.mk label sample) (by (try dsimp only); omega)), trivial⟩, (by omega), trivial⟩ ?_
     refine xe_then ?_
     refine xR [] [8, 9, 10] [8, 97] [.ref 8 0, I (ts.length : Int), I 0] [some (.box [I w.Band, .arr 97]), some (.arr 4 (ts.length + 1) (catF ts.length (fTrained true ts) (litF [Sv ((Trained.mk (Template.mk label sample).Label (Template.mk label sample).Feats (Template.mk label sample).Feats 0).Label), slFeat true ((Trained.mk (Template.mk label sample).Label (Template.mk label sample).Feats (Template.mk label sample).Feats 0).Base), slFeat true ((Trained.mk (Template.mk label sample).Label (Template.mk label sample).Feats (Template.mk label sample).Feats 0).Feats), I ((Trained.mk (Template.mk label sample).Label (Template.mk label sample).Feats (Template.mk label sample).Feats 0).Count)] 4)))] [] trivial ?_
     refine x_ret ?_
     refine xe_end ((Writer.mk w.Band (ts ++ [(Trained.mk (Template.mk label sample).Label (Template.mk label sample).Feats (Template.mk label sample).Feats 0)])), (ts.length : Int), 0) (show ((Writer.mk w.Band (ts ++ [(Trained.mk (Template.mk label sample).Label (Template.mk label sample).Feats (Template.mk label sample).Feats 0)])) = lrnW w label sample share) ∧ ((ts.length : Int) = lrnA w label sample) ∧ (0 = 0) ∧ (True) from ⟨(by first | rfl | (unfold lrnW lrnT; rw [← hkk, if_pos (by assumption), hts, lrnP_neg (by assumption)]; done) | (unfold lrnW lrnT; rw [← hkk, if_neg (by assumption), hts, lrnP_pos (by omega)]; done) | (unfold lrnA; rw [← hkk, if_pos (by assumption)]; omega) | (unfold lrnA; rw [← hkk, if_neg (by assumption)])), (by first | rfl | (unfold lrnW lrnT; rw [← hkk, if_pos (by assumption), hts, lrnP_neg (by assumption)]; done) | (unfold lrnW lrnT; rw [← hkk, if_neg (by assumption), hts, lrnP_pos (by omega)]; done) | (unfold lrnA; rw [← hkk, if_pos (by assumption)]; omega) | (unfold lrnA; rw [← hkk, if_neg (by assumption)])), (by first | rfl | (unfold lrnW lrnT; rw [← hkk, if_pos (by assumption), hts, lrnP_neg (by assumption)]; done) | (unfold lrnW lrnT; rw [← hkk, if_neg (by assumption), hts, lrnP_pos (by omega)]; done) | (unfold lrnA; rw [← hkk, if_pos (by assumption)]; omega) | (unfold lrnA; rw [← hkk, if_neg (by assumption)])), trivial⟩) (trivial) (.tup [.agg [I w.Band, .arr 97], I (ts.length : Int), I 0]) (by kernel_rfl) (.inr ⟨⟨rfl, ⟨⟨(fun _ => rfl), rfl, (by first | rfl | (simp; done) | (simp; omega) | omega), fun i_ hi_ => .inl (cat_snoc (enc := (cTrained true)) (xs := ts) rfl i_ hi_)⟩, rfl⟩⟩, ⟨rfl, ⟨rfl, rfl⟩⟩⟩) (fun _ => rfl) (fun _ => (by simp [tagged, taggedL, tagTrained]))
    refine x_r [(1, .dec false)] [1, 2, 3, 4, 8, 11, 46] [4, 8] [Sv label, slFeat false sample, I share, .ref 4 0, .ref 8 0, I v_1, Bv false] [some (bxWriter w), some (.box [I 0, nilA])] [¬ (v_1 < 0)] ⟨h1, trivial⟩ ?_
    refine xe_then ?_
    refine x_false rfl ?_
    refine x_skip ?_
    refine xe_then ?_
    refine xR [(3, .new 12)] [1, 2, 3, 4, 8, 11, 12] [4, 8, 12] [Sv label, slFeat false sample, I share, .ref 4 0, .ref 8 0, I v_1, .ref 12 0] [some (bxWriter w), some (.box [I 0, nilA]), some (.box [I w.Band, nilA])] [] trivial ?_
    refine x_seq ?_
    refine xR [] [1, 2, 3, 4, 8, 11, 12, 52, 53, 54] [4, 8, 12] [Sv label, slFeat false sample, I share, .ref 4 0, .ref 8 0, I v_1, .ref 12 0, slTrained false w.Trained, I (w.Trained.length : Int), I 0] [some (bxWriter w), some (.box [I 0, nilA]), some (.box [I w.Band, nilA])] [] trivial ?_
    refine x_block ?_
    refine x_nilC 12 1 821 4 (fun _ => []) rfl (by kernel_rfl) ?_
    refine x_weak [] (T := [(1, Sv label), (2, slFeat false sample), (3, I share), (4, .ref 4 0), (8, .ref 8 0), (11, I v_1), (12, .ref 12 0), (52, slTrained false w.Trained), (53, I (w.Trained.length : Int)), (54, I 0)]) (O := [(4, bxWriter w), (8, .box [I 0, nilA]), (12, .box [I w.Band, .arr 821]), (821, .arr 4 (([] : List Trained).length) (fTrained true ([] : List Trained)))]) rfl (⟨.inl rfl, .inl rfl, .inl rfl, .inl rfl, .inl rfl, .inl rfl, .inl rfl, .inl rfl, .inl rfl, .inl rfl, trivial⟩) (⟨.inl rfl, .inl rfl, .inl rfl, .inr ⟨rfl, (by first | rfl | (simp; done) | (simp; omega) | omega), fun i_ hi_ => absurd hi_ (Nat.not_lt_zero _)⟩, trivial⟩) ?_
    refine x_loop (X := Int × (List Trained)) (fun x => mkS [(1, Sv label), (2, slFeat false sample), (3, I share), (4, .ref 4 0), (8, .ref 8 0), (11, I v_1), (12, .ref 12 0), (52, slTrained false w.Trained), (53, I (w.Trained.length : Int)), (54, I x.1)] [(4, bxWriter w), (8, .box [I 0, nilA]), (12, .box [I w.Band, .arr 821]), (821, .arr 4 x.2.length (fTrained true x.2))]) (fun x => (0 ≤ x.1 ∧ x.1 ≤ (w.Trained.length : Int)) ∧ (x.2 = lrnP w sample share v_1 x.1.toNat) ∧ True) (fun x => ((w.Trained.length : Int) - x.1).toNat) (0, ([] : List Trained)) rfl (show (0 ≤ (0 : Int) ∧ (0 : Int) ≤ (w.Trained.length : Int)) ∧ (([] : List Trained) = lrnP w sample share v_1 (0 : Int).toNat) ∧ True from ⟨(by omega), (by rfl), trivial⟩) (fun x hI => ?_)
    obtain ⟨t54, ts⟩ := x
    obtain ⟨hi0, hts, _⟩ : (0 ≤ t54 ∧ t54 ≤ (w.Trained.length : Int)) ∧ (ts = lrnP w sample share v_1 t54.toNat) ∧ True := hI
    show XW _ _ _ _ (mkS [(1, Sv label), (2, slFeat false sample), (3, I share), (4, .ref 4 0), (8, .ref 8 0), (11, I v_1), (12, .ref 12 0), (52, slTrained false w.Trained), (53, I (w.Trained.length : Int)), (54, I t54)] [(4, bxWriter w), (8, .box [I 0, nilA]), (12, .box [I w.Band, .arr 821]), (821, .arr 4 ts.length (fTrained true ts))]) _ _
    refine x_seq ?_
    by_cases h4 : t54 < (w.Trained.length : Int)
    ·have hi : t54.toNat < w.Trained.length := by omega
     have hix : ((t54.toNat : Nat) : Int) = t54 := by omega
     have htr := hw.2.2 _ hi
     have htn := okFeats_n (okTr_iff.1 htr).2.2.1
     have htb := okFeats_n (okTr_iff.1 htr).2.1
     have hon := okFeats_n oks
     have hnx : (t54 + 1).toNat = t54.toNat + 1 := by omega
     have htl : ts.length = t54.toNat := by rw [hts, lrnP_len]
     refine x_r [(0, .dec true)] [1, 2, 3, 4, 8, 11, 12, 52, 53, 54, 55] [4, 8, 12, 821] [Sv label, slFeat false sample, I share, .ref 4 0, .ref 8 0, I v_1, .ref 12 0, slTrained false w.Trained, I (w.Trained.length : Int), I t54, Bv true] [some (bxWriter w), some (.box [I 0, nilA]), some (.box [I w.Band, .arr 821]), some (.arr 4 ts.length (fTrained true ts))] [t54 < (w.Trained.length : Int)] ⟨h4, trivial⟩ ?_
     refine xe_then ?_
     refine x_seq ?_
     refine x_true rfl ?_
     refine x_skip ?_
     refine xe_then ?_
     refine x_seq ?_
     refine x_block ?_
     refine xR [(3, .new 14)] [1, 2, 3, 4, 8, 11, 12, 13, 14, 52, 53, 54] [4, 8, 12, 14, 821] [Sv label, slFeat false sample, I share, .ref 4 0, .ref 8 0, I v_1, .ref 12 0, I t54, .ref 14 0, slTrained false w.Trained, I (w.Trained.length : Int), I t54] [some (bxWriter w), some (.box [I 0, nilA]), some (.box [I w.Band, .arr 821]), some (bxTrained (at_ w.Trained t54.toNat)), some (.arr 4 ts.length (fTrained true ts))] [(0 : Int) ≤ t54 ∧ t54 < (w.Trained.length : Int)] ⟨⟨(by omega), (by omega)⟩, trivial⟩ ?_
     refine x_seq ?_
     refine x_seq ?_
     by_cases h5 : t54 = v_1
     ·have hkt : t54 = v_1 := h5
      have hlq := hkb.2 (by omega)
      rw [show v_1.toNat = t54.toNat from by omega] at hlq
      have hlq := lrn_iff.1 hlq
      refine x_r [(2, .dec true)] [1, 2, 3, 4, 8, 11, 12, 14, 52, 53, 54, 61] [4, 8, 12, 14, 821] [Sv label, slFeat false sample, I share, .ref 4 0, .ref 8 0, I v_1, .ref 12 0, .ref 14 0, slTrained false w.Trained, I (w.Trained.length : Int), I t54, Bv true] [some (bxWriter w), some (.box [I 0, nilA]), some (.box [I w.Band, .arr 821]), some (bxTrained (at_ w.Trained t54.toNat)), some (.arr 4 ts.length (fTrained true ts))] [t54 = v_1] ⟨h5, trivial⟩ ?_
      refine xe_then ?_
      refine x_true rfl ?_
      obtain ⟨v_3, hx3_0, hc3⟩ := adapted_ok (at_ w.Trained t54.toNat) sample w.Band share htr oks hlq.2.2.1 hlq.2.2.2 hsh hlq.2.1
      have hvl : v_3.Base.length ≤ 72 ∧ v_3.Feats.length ≤ 72 := by rw [hx3_0, adpT_len]; exact ⟨by have := htb; exact (show (at_ w.Trained t54.toNat).Base.length ≤ 72 by omega), by omega⟩
      have hvp := lrnP_y (w := w) (s := sample) (share := share) (n := t54.toNat) (y := v_3) (hix.trans hkt) (by rw [hx3_0])
      refine x_r [(5, .call [(true, .any), (true, .any), (true, .any), (true, .any)] true (agTrainedT v_3))] [1, 2, 3, 4, 8, 11, 12, 14, 52, 53, 54] [4, 8, 12, 14, 821] [Sv label, slFeat false sample, I share, .ref 4 0, .ref 8 0, I v_1, .ref 12 0, .ref 14 0, slTrained false w.Trained, I (w.Trained.length : Int), I t54] [some (bxWriter w), some (.box [I 0, nilA]), some (.box [I w.Band, .arr 821]), some (bxTrainedT v_3), some (.arr 4 ts.length (fTrained true ts))] [Con Tryz.prog 35 [agTrained (at_ w.Trained t54.toNat), slFeat false sample, I w.Band, I share] true (agTrainedT v_3) ∧ True] ⟨⟨hc3, trivial⟩, trivial⟩ ?_
      refine xe_then ?_
      refine x_r [(6, .call [(false, slFeat false v_3.Base)] true (slFeat true v_3.Base)), (9, .call [(false, slFeat false v_3.Feats)] true (slFeat true v_3.Feats)), (13, .new 81), (14, .new 82)] [1, 2, 3, 4, 8, 11, 12, 52, 53, 54] [4, 8, 12, 82] [Sv label, slFeat false sample, I share, .ref 4 0, .ref 8 0, I v_1, .ref 12 0, slTrained false w.Trained, I (w.Trained.length : Int), I t54] [some (bxWriter w), some (.box [I 0, nilA]), some (.box [I w.Band, .arr 82]), some (.arr 4 (ts.length + 1) (catF ts.length (fTrained true ts) (litF [Sv v_3.Label, slFeat true v_3.Base, slFeat true v_3.Feats, I v_3.Count] 4)))] [Con Tryz.prog 36 [slFeat false v_3.Base] true (slFeat true v_3.Base) ∧ ((false = true → true = true) ∧ 3 = 3 ∧ v_3.Base.length = v_3.Base.length ∧ ∀ i_, i_ < v_3.Base.length → (fFeat v_3.Base) i_ = (fFeat v_3.Base) i_ ∨ (AV.idsL ((fFeat v_3.Base) i_) = [] ∧ leL (fun _ => none) false ((fFeat v_3.Base) i_) ((fFeat v_3.Base) i_))) ∧ True, Con Tryz.prog 36 [slFeat false v_3.Feats] true (slFeat true v_3.Feats) ∧ ((false = true → true = true) ∧ 3 = 3 ∧ v_3.Feats.length = v_3.Feats.length ∧ ∀ i_, i_ < v_3.Feats.length → (fFeat v_3.Feats) i_ = (fFeat v_3.Feats) i_ ∨ (AV.idsL ((fFeat v_3.Feats) i_) = [] ∧ leL (fun _ => none) false ((fFeat v_3.Feats) i_) ((fFeat v_3.Feats) i_))) ∧ True, (ts.length + 1) * 72 ≤ 140737488355328] ⟨⟨(cloneT_ok v_3.Base (by omega)), ⟨(fun h => by cases h), rfl, rfl, fun i _ => .inl rfl⟩, trivial⟩, ⟨(cloneT_ok v_3.Feats (by omega)), ⟨(fun h => by cases h), rfl, rfl, fun i _ => .inl rfl⟩, trivial⟩, (by omega), trivial⟩ ?_
      refine xe_block 2 ?_
      refine xe_then ?_
      refine x_r [] [1, 2, 3, 4, 8, 11, 12, 52, 53, 54] [4, 8, 12, 82] [Sv label, slFeat false sample, I share, .ref 4 0, .ref 8 0, I v_1, .ref 12 0, slTrained false w.Trained, I (w.Trained.length : Int), I (t54 + 1)] [some (bxWriter w), some (.box [I 0, nilA]), some (.box [I w.Band, .arr 82]), some (.arr 4 (ts.length + 1) (catF ts.length (fTrained true ts) (litF [Sv v_3.Label, slFeat true v_3.Base, slFeat true v_3.Feats, I v_3.Count] 4)))] [inR .i64 (t54 + 1)] ⟨(inR_i64 (by omega) (by omega)), trivial⟩ ?_
      refine xe_weak [(821, 82)] (T := [(1, Sv label), (2, slFeat false sample), (3, I share), (4, .ref 4 0), (8, .ref 8 0), (11, I v_1), (12, .ref 12 0), (52, slTrained false w.Trained), (53, I (w.Trained.length : Int)), (54, I (t54 + 1))]) (O := [(4, bxWriter w), (8, .box [I 0, nilA]), (12, .box [I w.Band, .arr 821]), (821, .arr 4 ((ts ++ [v_3]).length) (fTrained true (ts ++ [v_3])))]) rfl (⟨.inl rfl, .inl rfl, .inl rfl, .inl rfl, .inl rfl, .inl rfl, .inl rfl, .inl rfl, .inl rfl, .inl rfl, trivial⟩) (⟨.inl rfl, .inl rfl, .inl rfl, .inr ⟨rfl, (by first | rfl | (simp; done) | (simp; omega) | omega), fun i_ hi_ => .inl (cat_snoc (enc := (cTrained true)) (xs := ts) rfl i_ hi_)⟩, trivial⟩) (xe_again ((t54 + 1), (ts ++ [v_3])) rfl (show (0 ≤ (t54 + 1) ∧ (t54 + 1) ≤ (w.Trained.length : Int)) ∧ ((ts ++ [v_3]) = lrnP w sample share v_1 (t54 + 1).toNat) ∧ True from ⟨(by omega), (by rw [hnx, hts]; exact hvp), trivial⟩) (by first | (show (((w.Trained.length : Int) - (t54 + 1)).toNat : Nat) < ((w.Trained.length : Int) - t54).toNat; omega) | (dsimp only; omega)))
     have hvp := lrnP_n (w := w) (s := sample) (share := share) (n := t54.toNat) (y := at_ w.Trained t54.toNat) (fun q => h5 (hix.symm.trans q)) rfl
     refine x_r [(2, .dec false)] [1, 2, 3, 4, 8, 11, 12, 14, 52, 53, 54, 61] [4, 8, 12, 14, 821] [Sv label, slFeat false sample, I share, .ref 4 0, .ref 8 0, I v_1, .ref 12 0, .ref 14 0, slTrained false w.Trained, I (w.Trained.length : Int), I t54, Bv false] [some (bxWriter w), some (.box [I 0, nilA]), some (.box [I w.Band, .arr 821]), some (bxTrained (at_ w.Trained t54.toNat)), some (.arr 4 ts.length (fTrained true ts))] [¬ (t54 = v_1)] ⟨h5, trivial⟩ ?_
     refine xe_then ?_
     refine x_false rfl ?_
     refine x_skip ?_
     refine xe_then ?_
     refine x_r [(6, .call [(true, .any)] true (slFeat true ((at_ w.Trained t54.toNat).Base))), (9, .call [(true, .any)] true (slFeat true ((at_ w.Trained t54.toNat).Feats))), (13, .new 81), (14, .new 82)] [1, 2, 3, 4, 8, 11, 12, 52, 53, 54] [4, 8, 12, 82] [Sv label, slFeat false sample, I share, .ref 4 0, .ref 8 0, I v_1, .ref 12 0, slTrained false w.Trained, I (w.Trained.length : Int), I t54] [some (bxWriter w), some (.box [I 0, nilA]), some (.box [I w.Band, .arr 82]), some (.arr 4 (ts.length + 1) (catF ts.length (fTrained true ts) (litF [Sv ((at_ w.Trained t54.toNat).Label), slFeat true ((at_ w.Trained t54.toNat).Base), slFeat true ((at_ w.Trained t54.toNat).Feats), I ((at_ w.Trained t54.toNat).Count)] 4)))] [Con Tryz.prog 36 [slFeat false ((at_ w.Trained t54.toNat).Base)] true (slFeat true ((at_ w.Trained t54.toNat).Base)) ∧ True, Con Tryz.prog 36 [slFeat false ((at_ w.Trained t54.toNat).Feats)] true (slFeat true ((at_ w.Trained t54.toNat).Feats)) ∧ True, (ts.length + 1) * 72 ≤ 140737488355328] ⟨⟨(cloneT_ok ((at_ w.Trained t54.toNat).Base) (by omega)), trivial⟩, ⟨(cloneT_ok ((at_ w.Trained t54.toNat).Feats) (by omega)), trivial⟩, (by omega), trivial⟩ ?_
     refine xe_block 2 ?_
     refine xe_then ?_
     refine x_r [] [1, 2, 3, 4, 8, 11, 12, 52, 53, 54] [4, 8, 12, 82] [Sv label, slFeat false sample, I share, .ref 4 0, .ref 8 0, I v_1, .ref 12 0, slTrained false w.Trained, I (w.Trained.length : Int), I (t54 + 1)] [some (bxWriter w), some (.box [I 0, nilA]), some (.box [I w.Band, .arr 82]), some (.arr 4 (ts.length + 1) (catF ts.length (fTrained true ts) (litF [Sv ((at_ w.Trained t54.toNat).Label), slFeat true ((at_ w.Trained t54.toNat).Base), slFeat true ((at_ w.Trained t54.toNat).Feats), I ((at_ w.Trained t54.toNat).Count)] 4)))] [inR .i64 (t54 + 1)] ⟨(inR_i64 (by omega) (by omega)), trivial⟩ ?_
     refine xe_weak [(821, 82)] (T := [(1, Sv label), (2, slFeat false sample), (3, I share), (4, .ref 4 0), (8, .ref 8 0), (11, I v_1), (12, .ref 12 0), (52, slTrained false w.Trained), (53, I (w.Trained.length : Int)), (54, I (t54 + 1))]) (O := [(4, bxWriter w), (8, .box [I 0, nilA]), (12, .box [I w.Band, .arr 821]), (821, .arr 4 ((ts ++ [(at_ w.Trained t54.toNat)]).length) (fTrained true (ts ++ [(at_ w.Trained t54.toNat)])))]) rfl (⟨.inl rfl, .inl rfl, .inl rfl, .inl rfl, .inl rfl, .inl rfl, .inl rfl, .inl rfl, .inl rfl, .inl rfl, trivial⟩) (⟨.inl rfl, .inl rfl, .inl rfl, .inr ⟨rfl, (by first | rfl | (simp; done) | (simp; omega) | omega), fun i_ hi_ => .inl (cat_snoc (enc := (cTrained true)) (xs := ts) rfl i_ hi_)⟩, trivial⟩) (xe_again ((t54 + 1), (ts ++ [(at_ w.Trained t54.toNat)])) rfl (show (0 ≤ (t54 + 1) ∧ (t54 + 1) ≤ (w.Trained.length : Int)) ∧ ((ts ++ [(at_ w.Trained t54.toNat)]) = lrnP w sample share v_1 (t54 + 1).toNat) ∧ True from ⟨(by omega), (by rw [hnx, hts]; exact hvp), trivial⟩) (by first | (show (((w.Trained.length : Int) - (t54 + 1)).toNat : Nat) < ((w.Trained.length : Int) - t54).toNat; omega) | (dsimp only; omega)))
    have hie : t54.toNat = w.Trained.length := by omega
    rw [hie] at hts
    have htl : ts.length = w.Trained.length := by rw [hts, lrnP_len]
    refine x_r [(0, .dec false)] [1, 2, 3, 4, 8, 11, 12, 52, 53, 54, 55] [4, 8, 12, 821] [Sv label, slFeat false sample, I share, .ref 4 0, .ref 8 0, I v_1, .ref 12 0, slTrained false w.Trained, I (w.Trained.length : Int), I t54, Bv false] [some (bxWriter w), some (.box [I 0, nilA]), some (.box [I w.Band, .arr 821]), some (.arr 4 ts.length (fTrained true ts))] [¬ (t54 < (w.Trained.length : Int))] ⟨h4, trivial⟩ ?_
    refine xe_then ?_
    refine x_seq ?_
    refine x_false rfl ?_
    refine x_exit ?_
    refine xe_exit_then ?_
    refine xe_loop_exit ?_
    refine xe_exit_same ?_
    refine xe_then ?_
    refine x_seq ?_
    refine xR [(1, .dec false)] [1, 2, 8, 11, 12, 86] [8, 12, 821] [Sv label, slFeat false sample, .ref 8 0, I v_1, .ref 12 0, Bv false] [some (.box [I 0, nilA]), some (.box [I w.Band, .arr 821]), some (.arr 4 ts.length (fTrained true ts))] [¬ (v_1 < 0)] ⟨h1, trivial⟩ ?_
    refine x_false rfl ?_
    refine x_skip ?_
    refine xe_then ?_
    refine xR [] [8, 9, 10] [8, 821] [.ref 8 0, I v_1, I 0] [some (.box [I w.Band, .arr 821]), some (.arr 4 ts.length (fTrained true ts))] [] trivial ?_
    refine x_ret ?_
    refine xe_end ((Writer.mk w.Band ts), v_1, 0) (show ((Writer.mk w.Band ts) = lrnW w label sample share) ∧ (v_1 = lrnA w label sample) ∧ (0 = 0) ∧ (True) from ⟨(by first | rfl | (unfold lrnW lrnT; rw [← hkk, if_pos (by assumption), hts, lrnP_neg (by assumption)]; done) | (unfold lrnW lrnT; rw [← hkk, if_neg (by assumption), hts, lrnP_pos (by omega)]; done) | (unfold lrnA; rw [← hkk, if_pos (by assumption)]; omega) | (unfold lrnA; rw [← hkk, if_neg (by assumption)])), (by first | rfl | (unfold lrnW lrnT; rw [← hkk, if_pos (by assumption), hts, lrnP_neg (by assumption)]; done) | (unfold lrnW lrnT; rw [← hkk, if_neg (by assumption), hts, lrnP_pos (by omega)]; done) | (unfold lrnA; rw [← hkk, if_pos (by assumption)]; omega) | (unfold lrnA; rw [← hkk, if_neg (by assumption)])), (by first | rfl | (unfold lrnW lrnT; rw [← hkk, if_pos (by assumption), hts, lrnP_neg (by assumption)]; done) | (unfold lrnW lrnT; rw [← hkk, if_neg (by assumption), hts, lrnP_pos (by omega)]; done) | (unfold lrnA; rw [← hkk, if_pos (by assumption)]; omega) | (unfold lrnA; rw [← hkk, if_neg (by assumption)])), trivial⟩) (trivial) (.tup [.agg [I w.Band, .arr 821], I v_1, I 0]) (by kernel_rfl) (.inr ⟨⟨rfl, ⟨⟨(fun _ => rfl), rfl, rfl, fun i _ => .inl rfl⟩, rfl⟩⟩, ⟨rfl, ⟨rfl, rfl⟩⟩⟩) (fun _ => rfl) (fun _ => (by simp [tagged, taggedL, tagTrained]))
  obtain ⟨⟨v, ix, c⟩, ⟨hh0, hh1, hh2, _⟩, hc⟩ := hh
  exact ⟨v, ix, c, hh0, hh1, hh2, hc⟩


-- spec.l01Small
theorem l01Small_ok (c : Int) : Con Tryz.prog 110 [.val (.int .u8 c)] true (Bv (inB c 97 122)) := by
  refine fn_ok (fn := Tryz.f110) (nt := 9) Tryz.func110 rfl rfl rfl rfl (by simp [taggedL, tagged]) fun B hB => ?_
  refine aR [] [0] [] [.val (.int .u8 c)] [] [] hB trivial ?_
  refine aw_seq ?_
  by_cases h1 : 97 ≤ c
  ·refine aw_r [(1, .dec true)] [2] [] [Bv (decide (c ≤ 122))] [] [97 ≤ c] hB ⟨h1, trivial⟩ ?_
   refine ae_then ?_
   refine aw_ret ?_
   refine ae_ret hB (Bv (decide (c ≤ 122))) (by kernel_rfl) (.inl (by first | rfl | (refine congrArg Bv ?_; simp [inB, *]; done) | (refine congrArg Bv ?_; simp [inB, *]; omega) | (refine congrArg Bv ?_; simp_all [inB]; done) | (refine congrArg Bv ?_; simp_all [inB]; omega))) rfl (fun _ => trivial)
  refine aw_r [(1, .dec false)] [2] [] [Bv false] [] [¬ (97 ≤ c)] hB ⟨h1, trivial⟩ ?_
  refine ae_then ?_
  refine aw_ret ?_
  refine ae_ret hB (Bv false) (by kernel_rfl) (.inl (by first | rfl | (refine congrArg Bv ?_; simp [inB, *]; done) | (refine congrArg Bv ?_; simp [inB, *]; omega) | (refine congrArg Bv ?_; simp_all [inB]; done) | (refine congrArg Bv ?_; simp_all [inB]; omega))) rfl (fun _ => trivial)


-- spec.l11Label
theorem l11Label_ok (c : Int) : Con Tryz.prog 84 [.val (.int .u8 c)] true (Bv (labB c)) := by
  refine fn_ok (fn := Tryz.f84) (nt := 24) Tryz.func84 rfl rfl rfl rfl (by simp [taggedL, tagged]) fun B hB => ?_
  refine aR [] [0] [] [.val (.int .u8 c)] [] [] hB trivial ?_
  refine aw_seq ?_
  refine aR [] [0, 3] [] [.val (.int .u8 c), .val (.int .u8 c)] [] [] hB trivial ?_
  refine aw_block ?_
  refine aw_seq ?_
  refine aw_seq ?_
  by_cases h1 : c = 43
  ·refine aw_r [(0, .dec true)] [0, 3, 4] [] [.val (.int .u8 c), .val (.int .u8 c), Bv true] [] [c = 43] hB ⟨h1, trivial⟩ ?_
   refine ae_then ?_
   refine aw_true rfl ?_
   refine aw_skip ?_
   refine ae_then ?_
   refine aw_true rfl ?_
   refine aR [] [2] [] [Bv true] [] [] hB trivial ?_
   refine aw_ret ?_
   refine ae_ret_block (ae_ret_then ?_)
   refine ae_ret hB (Bv true) (by kernel_rfl) (.inl (by first | rfl | (refine congrArg Bv ?_; simp [labB, inB, *]; done) | (refine congrArg Bv ?_; simp [labB, inB, *]; omega) | (refine congrArg Bv ?_; simp_all [labB, inB]; done) | (refine congrArg Bv ?_; simp_all [labB, inB]; omega))) rfl (fun _ => trivial)
  refine aw_r [(0, .dec false)] [0, 3, 4] [] [.val (.int .u8 c), .val (.int .u8 c), Bv false] [] [¬ (c = 43)] hB ⟨h1, trivial⟩ ?_
  refine ae_then ?_
  refine aw_false rfl ?_
  refine aw_seq ?_
  by_cases h2 : c = 45
  ·refine aw_r [(0, .dec true)] [0, 3, 4] [] [.val (.int .u8 c), .val (.int .u8 c), Bv true] [] [c = 45] hB ⟨h2, trivial⟩ ?_
   refine ae_then ?_
   refine aw_true rfl ?_
   refine aw_skip ?_
   refine ae_then ?_
   refine aw_true rfl ?_
   refine aR [] [2] [] [Bv true] [] [] hB trivial ?_
   refine aw_ret ?_
   refine ae_ret_block (ae_ret_then ?_)
   refine ae_ret hB (Bv true) (by kernel_rfl) (.inl (by first | rfl | (refine congrArg Bv ?_; simp [labB, inB, *]; done) | (refine congrArg Bv ?_; simp [labB, inB, *]; omega) | (refine congrArg Bv ?_; simp_all [labB, inB]; done) | (refine congrArg Bv ?_; simp_all [labB, inB]; omega))) rfl (fun _ => trivial)
  refine aw_r [(0, .dec false)] [0, 3, 4] [] [.val (.int .u8 c), .val (.int .u8 c), Bv false] [] [¬ (c = 45)] hB ⟨h2, trivial⟩ ?_
  refine ae_then ?_
  refine aw_false rfl ?_
  refine aw_seq ?_
  by_cases h3 : c = 42
  ·refine aw_r [(0, .dec true)] [0, 3, 4] [] [.val (.int .u8 c), .val (.int .u8 c), Bv true] [] [c = 42] hB ⟨h3, trivial⟩ ?_
   refine ae_then ?_
   refine aw_true rfl ?_
   refine aw_skip ?_
   refine ae_then ?_
   refine aw_true rfl ?_
   refine aR [] [2] [] [Bv true] [] [] hB trivial ?_
   refine aw_ret ?_
   refine ae_ret_block (ae_ret_then ?_)
   refine ae_ret hB (Bv true) (by kernel_rfl) (.inl (by first | rfl | (refine congrArg Bv ?_; simp [labB, inB, *]; done) | (refine congrArg Bv ?_; simp [labB, inB, *]; omega) | (refine congrArg Bv ?_; simp_all [labB, inB]; done) | (refine congrArg Bv ?_; simp_all [labB, inB]; omega))) rfl (fun _ => trivial)
  refine aw_r [(0, .dec false)] [0, 3, 4] [] [.val (.int .u8 c), .val (.int .u8 c), Bv false] [] [¬ (c = 42)] hB ⟨h3, trivial⟩ ?_
  refine ae_then ?_
  refine aw_false rfl ?_
  refine aw_seq ?_
  by_cases h4 : c = 47
  ·refine aw_r [(0, .dec true)] [0, 3, 4] [] [.val (.int .u8 c), .val (.int .u8 c), Bv true] [] [c = 47] hB ⟨h4, trivial⟩ ?_
   refine ae_then ?_
   refine aw_true rfl ?_
   refine aw_skip ?_
   refine ae_then ?_
   refine aw_true rfl ?_
   refine aR [] [2] [] [Bv true] [] [] hB trivial ?_
   refine aw_ret ?_
   refine ae_ret_block (ae_ret_then ?_)
   refine ae_ret hB (Bv true) (by kernel_rfl) (.inl (by first | rfl | (refine congrArg Bv ?_; simp [labB, inB, *]; done) | (refine congrArg Bv ?_; simp [labB, inB, *]; omega) | (refine congrArg Bv ?_; simp_all [labB, inB]; done) | (refine congrArg Bv ?_; simp_all [labB, inB]; omega))) rfl (fun _ => trivial)
  refine aw_r [(0, .dec false)] [0, 3, 4] [] [.val (.int .u8 c), .val (.int .u8 c), Bv false] [] [¬ (c = 47)] hB ⟨h4, trivial⟩ ?_
  refine ae_then ?_
  refine aw_false rfl ?_
  refine aw_seq ?_
  by_cases h5 : c = 61
  ·refine aw_r [(0, .dec true)] [0, 3, 4] [] [.val (.int .u8 c), .val (.int .u8 c), Bv true] [] [c = 61] hB ⟨h5, trivial⟩ ?_
   refine ae_then ?_
   refine aw_true rfl ?_
   refine aw_skip ?_
   refine ae_then ?_
   refine aw_true rfl ?_
   refine aR [] [2] [] [Bv true] [] [] hB trivial ?_
   refine aw_ret ?_
   refine ae_ret_block (ae_ret_then ?_)
   refine ae_ret hB (Bv true) (by kernel_rfl) (.inl (by first | rfl | (refine congrArg Bv ?_; simp [labB, inB, *]; done) | (refine congrArg Bv ?_; simp [labB, inB, *]; omega) | (refine congrArg Bv ?_; simp_all [labB, inB]; done) | (refine congrArg Bv ?_; simp_all [labB, inB]; omega))) rfl (fun _ => trivial)
  refine aw_r [(0, .dec false)] [0, 3, 4] [] [.val (.int .u8 c), .val (.int .u8 c), Bv false] [] [¬ (c = 61)] hB ⟨h5, trivial⟩ ?_
  refine ae_then ?_
  refine aw_false rfl ?_
  refine aw_seq ?_
  by_cases h6 : c = 40
  ·refine aw_r [(0, .dec true)] [0, 3, 4] [] [.val (.int .u8 c), .val (.int .u8 c), Bv true] [] [c = 40] hB ⟨h6, trivial⟩ ?_
   refine ae_then ?_
   refine aw_true rfl ?_
   refine aw_skip ?_
   refine ae_then ?_
   refine aw_true rfl ?_
   refine aR [] [2] [] [Bv true] [] [] hB trivial ?_
   refine aw_ret ?_
   refine ae_ret_block (ae_ret_then ?_)
   refine ae_ret hB (Bv true) (by kernel_rfl) (.inl (by first | rfl | (refine congrArg Bv ?_; simp [labB, inB, *]; done) | (refine congrArg Bv ?_; simp [labB, inB, *]; omega) | (refine congrArg Bv ?_; simp_all [labB, inB]; done) | (refine congrArg Bv ?_; simp_all [labB, inB]; omega))) rfl (fun _ => trivial)
  refine aw_r [(0, .dec false)] [0, 3, 4] [] [.val (.int .u8 c), .val (.int .u8 c), Bv false] [] [¬ (c = 40)] hB ⟨h6, trivial⟩ ?_
  refine ae_then ?_
  refine aw_false rfl ?_
  refine aw_seq ?_
  by_cases h7 : c = 41
  ·refine aw_r [(0, .dec true)] [0, 3, 4] [] [.val (.int .u8 c), .val (.int .u8 c), Bv true] [] [c = 41] hB ⟨h7, trivial⟩ ?_
   refine ae_then ?_
   refine aw_true rfl ?_
   refine aw_skip ?_
   refine ae_then ?_
   refine aw_true rfl ?_
   refine aR [] [2] [] [Bv true] [] [] hB trivial ?_
   refine aw_ret ?_
   refine ae_ret_block (ae_ret_then ?_)
   refine ae_ret hB (Bv true) (by kernel_rfl) (.inl (by first | rfl | (refine congrArg Bv ?_; simp [labB, inB, *]; done) | (refine congrArg Bv ?_; simp [labB, inB, *]; omega) | (refine congrArg Bv ?_; simp_all [labB, inB]; done) | (refine congrArg Bv ?_; simp_all [labB, inB]; omega))) rfl (fun _ => trivial)
  refine aw_r [(0, .dec false)] [0, 3, 4] [] [.val (.int .u8 c), .val (.int .u8 c), Bv false] [] [¬ (c = 41)] hB ⟨h7, trivial⟩ ?_
  refine ae_then ?_
  refine aw_false rfl ?_
  refine aw_seq ?_
  by_cases h8 : c = 46
  ·refine aw_r [(0, .dec true)] [0, 3, 4] [] [.val (.int .u8 c), .val (.int .u8 c), Bv true] [] [c = 46] hB ⟨h8, trivial⟩ ?_
   refine ae_then ?_
   refine aw_true rfl ?_
   refine aw_skip ?_
   refine ae_then ?_
   refine aw_true rfl ?_
   refine aR [] [2] [] [Bv true] [] [] hB trivial ?_
   refine aw_ret ?_
   refine ae_ret_block (ae_ret_then ?_)
   refine ae_ret hB (Bv true) (by kernel_rfl) (.inl (by first | rfl | (refine congrArg Bv ?_; simp [labB, inB, *]; done) | (refine congrArg Bv ?_; simp [labB, inB, *]; omega) | (refine congrArg Bv ?_; simp_all [labB, inB]; done) | (refine congrArg Bv ?_; simp_all [labB, inB]; omega))) rfl (fun _ => trivial)
  refine aw_r [(0, .dec false)] [0, 3, 4] [] [.val (.int .u8 c), .val (.int .u8 c), Bv false] [] [¬ (c = 46)] hB ⟨h8, trivial⟩ ?_
  refine ae_then ?_
  refine aw_false rfl ?_
  by_cases h9 : c = 44
  ·refine aw_r [(0, .dec true)] [0, 4] [] [.val (.int .u8 c), Bv true] [] [c = 44] hB ⟨h9, trivial⟩ ?_
   refine ae_then ?_
   refine aw_true rfl ?_
   refine aR [] [2] [] [Bv true] [] [] hB trivial ?_
   refine aw_ret ?_
   refine ae_ret_block (ae_ret_then ?_)
   refine ae_ret hB (Bv true) (by kernel_rfl) (.inl (by first | rfl | (refine congrArg Bv ?_; simp [labB, inB, *]; done) | (refine congrArg Bv ?_; simp [labB, inB, *]; omega) | (refine congrArg Bv ?_; simp_all [labB, inB]; done) | (refine congrArg Bv ?_; simp_all [labB, inB]; omega))) rfl (fun _ => trivial)
  refine aw_r [(0, .dec false)] [0, 4] [] [.val (.int .u8 c), Bv false] [] [¬ (c = 44)] hB ⟨h9, trivial⟩ ?_
  refine ae_then ?_
  refine aw_false rfl ?_
  refine aw_skip ?_
  refine ae_block 0 ?_
  refine ae_then ?_
  refine aw_seq ?_
  rcases Bool.eq_false_or_eq_true (inB c 97 122) with h10 | h10
  ·refine aw_r [(1, .call [(true, .any)] true (Bv true))] [2] [] [Bv true] [] [Con Tryz.prog 110 [.val (.int .u8 c)] true (Bv true) ∧ True] hB ⟨⟨(con_bool h10 (l01Small_ok c)), trivial⟩, trivial⟩ ?_
   refine ae_then ?_
   refine aw_ret ?_
   refine ae_ret hB (Bv true) (by kernel_rfl) (.inl (by first | rfl | (refine congrArg Bv ?_; simp [labB, inB, *]; done) | (refine congrArg Bv ?_; simp [labB, inB, *]; omega) | (refine congrArg Bv ?_; simp_all [labB, inB]; done) | (refine congrArg Bv ?_; simp_all [labB, inB]; omega))) rfl (fun _ => trivial)
  by_cases h11 : 48 ≤ c
  ·refine aw_r [(1, .call [(true, .any)] true (Bv false)), (4, .dec true)] [2] [] [Bv (decide (c ≤ 57))] [] [Con Tryz.prog 110 [.val (.int .u8 c)] true (Bv false) ∧ True, 48 ≤ c] hB ⟨⟨(con_bool h10 (l01Small_ok c)), trivial⟩, h11, trivial⟩ ?_
   refine ae_then ?_
   refine aw_ret ?_
   refine ae_ret hB (Bv (decide (c ≤ 57))) (by kernel_rfl) (.inl (by first | rfl | (refine congrArg Bv ?_; simp [labB, inB, *]; done) | (refine congrArg Bv ?_; simp [labB, inB, *]; omega) | (refine congrArg Bv ?_; simp_all [labB, inB]; done) | (refine congrArg Bv ?_; simp_all [labB, inB]; omega))) rfl (fun _ => trivial)
  refine aw_r [(1, .call [(true, .any)] true (Bv false)), (4, .dec false)] [2] [] [Bv false] [] [Con Tryz.prog 110 [.val (.int .u8 c)] true (Bv false) ∧ True, ¬ (48 ≤ c)] hB ⟨⟨(con_bool h10 (l01Small_ok c)), trivial⟩, h11, trivial⟩ ?_
  refine ae_then ?_
  refine aw_ret ?_
  refine ae_ret hB (Bv false) (by kernel_rfl) (.inl (by first | rfl | (refine congrArg Bv ?_; simp [labB, inB, *]; done) | (refine congrArg Bv ?_; simp [labB, inB, *]; omega) | (refine congrArg Bv ?_; simp_all [labB, inB]; done) | (refine congrArg Bv ?_; simp_all [labB, inB]; omega))) rfl (fun _ => trivial)


-- spec.IsLabel
theorem specIsLabel_ok (s : ByteArray) (ok : s.size ≤ 9223372036854775807) : Con Tryz.prog 47 [Sv s] true (Bv (okLabel s)) := by
  refine fn_ok (fn := Tryz.f47) (nt := 11) Tryz.func47 rfl rfl rfl rfl (by simp [taggedL, tagged]) fun B hB => ?_
  refine aR [] [0] [] [Sv s] [] [] hB trivial ?_
  refine aw_seq ?_
  by_cases h1 : (s.size : Int) = 1
  ·refine aw_r [(2, .dec true), (6, .call [(true, .any)] true (Bv (labB (bAt s 0))))] [2] [] [Bv (labB (bAt s 0))] [] [(s.size : Int) = 1, (0 : Int) ≤ 0 ∧ 0 < (s.size : Int), Con Tryz.prog 84 [.val (.int .u8 (bAt s 0))] true (Bv (labB (bAt s 0))) ∧ True] hB ⟨h1, ⟨(by omega), (by omega)⟩, ⟨(l11Label_ok (bAt s 0)), trivial⟩, trivial⟩ ?_
   refine ae_then ?_
   refine aw_ret ?_
   refine ae_ret hB (Bv (labB (bAt s 0))) (by kernel_rfl) (.inl (by first | rfl | (refine congrArg Bv ?_; simp [okLabel, *]; done) | (refine congrArg Bv ?_; simp [okLabel, *]; omega) | (refine congrArg Bv ?_; simp_all [okLabel]; done) | (refine congrArg Bv ?_; simp_all [okLabel]; omega))) rfl (fun _ => trivial)
  refine aw_r [(2, .dec false)] [2] [] [Bv false] [] [¬ ((s.size : Int) = 1)] hB ⟨h1, trivial⟩ ?_
  refine ae_then ?_
  refine aw_ret ?_
  refine ae_ret hB (Bv false) (by kernel_rfl) (.inl (by first | rfl | (refine congrArg Bv ?_; simp [okLabel, *]; done) | (refine congrArg Bv ?_; simp [okLabel, *]; omega) | (refine congrArg Bv ?_; simp_all [okLabel]; done) | (refine congrArg Bv ?_; simp_all [okLabel]; omega))) rfl (fun _ => trivial)


-- spec.l00In
theorem l00In_ok (n : Int) (low : Int) (high : Int) : Con Tryz.prog 48 [I n, I low, I high] true (Bv (inB n low high)) := by
  refine fn_ok (fn := Tryz.f48) (nt := 15) Tryz.func48 rfl rfl rfl rfl (by simp [taggedL, tagged]) fun B hB => ?_
  refine aR [] [0, 1, 2] [] [I n, I low, I high] [] [] hB trivial ?_
  refine aw_seq ?_
  by_cases h1 : low ≤ n
  ·refine aw_r [(2, .dec true)] [6] [] [Bv (decide (n ≤ high))] [] [low ≤ n] hB ⟨h1, trivial⟩ ?_
   refine ae_then ?_
   refine aw_ret ?_
   refine ae_ret hB (Bv (decide (n ≤ high))) (by kernel_rfl) (.inl (by first | rfl | (refine congrArg Bv ?_; simp [inB, *]; done) | (refine congrArg Bv ?_; simp [inB, *]; omega) | (refine congrArg Bv ?_; simp_all [inB]; done) | (refine congrArg Bv ?_; simp_all [inB]; omega))) rfl (fun _ => trivial)
  refine aw_r [(2, .dec false)] [6] [] [Bv false] [] [¬ (low ≤ n)] hB ⟨h1, trivial⟩ ?_
  refine ae_then ?_
  refine aw_ret ?_
  refine ae_ret hB (Bv false) (by kernel_rfl) (.inl (by first | rfl | (refine congrArg Bv ?_; simp [inB, *]; done) | (refine congrArg Bv ?_; simp [inB, *]; omega) | (refine congrArg Bv ?_; simp_all [inB]; done) | (refine congrArg Bv ?_; simp_all [inB]; omega))) rfl (fun _ => trivial)


-- spec.l09Feat
theorem l09Feat_ok (f : Feat) : Con Tryz.prog 83 [agFeat f] true (Bv (okF f)) := by
  refine fn_ok (fn := Tryz.f83) (nt := 16) Tryz.func83 rfl rfl rfl rfl (by simp [taggedL, tagged]) fun B hB => ?_
  refine aR [(0, .new 1)] [1] [1] [.ref 1 0] [some (bxFeat f)] [] hB trivial ?_
  refine aw_seq ?_
  rcases Bool.eq_false_or_eq_true (inB f.X 0 255) with h1 | h1
  ·rcases Bool.eq_false_or_eq_true (inB f.Y 0 255) with h2 | h2
   ·refine aw_r [(2, .call [(true, .any), (true, .any), (true, .any)] true (Bv true)), (6, .call [(true, .any), (true, .any), (true, .any)] true (Bv true)), (11, .call [(true, .any), (true, .any), (true, .any)] true (Bv (inB f.D 0 7)))] [2] [] [Bv (inB f.D 0 7)] [] [Con Tryz.prog 48 [I f.X, I 0, I 255] true (Bv true) ∧ True, Con Tryz.prog 48 [I f.Y, I 0, I 255] true (Bv true) ∧ True, Con Tryz.prog 48 [I f.D, I 0, I 7] true (Bv (inB f.D 0 7)) ∧ True] hB ⟨⟨(con_bool h1 (l00In_ok f.X 0 255)), trivial⟩, ⟨(con_bool h2 (l00In_ok f.Y 0 255)), trivial⟩, ⟨(l00In_ok f.D 0 7), trivial⟩, trivial⟩ ?_
    refine ae_then ?_
    refine aw_ret ?_
    refine ae_ret hB (Bv (inB f.D 0 7)) (by kernel_rfl) (.inl (by first | rfl | (refine congrArg Bv ?_; simp [okF, *]; done) | (refine congrArg Bv ?_; simp [okF, *]; omega) | (refine congrArg Bv ?_; simp_all [okF]; done) | (refine congrArg Bv ?_; simp_all [okF]; omega))) rfl (fun _ => trivial)
   refine aw_r [(2, .call [(true, .any), (true, .any), (true, .any)] true (Bv true)), (6, .call [(true, .any), (true, .any), (true, .any)] true (Bv false))] [2] [] [Bv false] [] [Con Tryz.prog 48 [I f.X, I 0, I 255] true (Bv true) ∧ True, Con Tryz.prog 48 [I f.Y, I 0, I 255] true (Bv false) ∧ True] hB ⟨⟨(con_bool h1 (l00In_ok f.X 0 255)), trivial⟩, ⟨(con_bool h2 (l00In_ok f.Y 0 255)), trivial⟩, trivial⟩ ?_
   refine ae_then ?_
   refine aw_ret ?_
   refine ae_ret hB (Bv false) (by kernel_rfl) (.inl (by first | rfl | (refine congrArg Bv ?_; simp [okF, *]; done) | (refine congrArg Bv ?_; simp [okF, *]; omega) | (refine congrArg Bv ?_; simp_all [okF]; done) | (refine congrArg Bv ?_; simp_all [okF]; omega))) rfl (fun _ => trivial)
  refine aw_r [(2, .call [(true, .any), (true, .any), (true, .any)] true (Bv false))] [2] [] [Bv false] [] [Con Tryz.prog 48 [I f.X, I 0, I 255] true (Bv false) ∧ True] hB ⟨⟨(con_bool h1 (l00In_ok f.X 0 255)), trivial⟩, trivial⟩ ?_
  refine ae_then ?_
  refine aw_ret ?_
  refine ae_ret hB (Bv false) (by kernel_rfl) (.inl (by first | rfl | (refine congrArg Bv ?_; simp [okF, *]; done) | (refine congrArg Bv ?_; simp [okF, *]; omega) | (refine congrArg Bv ?_; simp_all [okF]; done) | (refine congrArg Bv ?_; simp_all [okF]; omega))) rfl (fun _ => trivial)


-- spec.l09Ok
theorem l09Ok_ok (list : List Feat) : Con Tryz.prog 46 [slFeat false list] true (Bv (okFeats list 72)) := by
  refine fn_ok (fn := Tryz.f46) (nt := 19) Tryz.func46 rfl rfl rfl rfl (by simp [taggedL, tagged, tagFeat]) fun B hB => ?_
  refine aw_lens (x := slFeat false list) 0 rfl (fun len_list => ?_)
  simp [LenOK, LenL, cFeat, fFeat, slFeat] at len_list
  refine aR [] [0] [] [slFeat false list] [] [] hB trivial ?_
  refine aw_seq ?_
  refine aR [] [0, 3] [] [slFeat false list, I 0] [] [] hB trivial ?_
  refine aw_block ?_
  refine aw_loop (fun gn gσ => ∃ (i : Int), gn = ((list.length : Int) - i).toNat ∧ (0 ≤ i ∧ i ≤ (list.length : Int)) ∧ (∀ j : Nat, (j : Int) < i → okF (at_ list j) = true) ∧ gσ = mkS [(0, slFeat false list), (3, I i)] []) (((list.length : Int) - 0).toNat) ⟨0, rfl, (by omega), (by intro j hj; omega), rfl⟩ (fun gn gσ hI => ?_)
  obtain ⟨i, rfl, hi0, hall0, rfl⟩ := hI
  refine aw_seq ?_
  refine aw_seq ?_
  by_cases h1 : i < (list.length : Int)
  ·have hi : i.toNat < list.length := by omega
   refine aw_r [(3, .dec true)] [0, 3, 7] [] [slFeat false list, I i, Bv true] [] [i < (list.length : Int)] hB ⟨h1, trivial⟩ ?_
   refine ae_then ?_
   refine aw_true rfl ?_
   refine aw_skip ?_
   refine ae_then ?_
   refine aw_seq ?_
   refine aw_block ?_
   refine aw_seq ?_
   rcases Bool.eq_false_or_eq_true (okF (at_ list i.toNat)) with h2 | h2
   ·refine aw_r [(4, .call [(true, .any)] true (Bv true))] [0, 3, 15] [] [slFeat false list, I i, Bv false] [] [(0 : Int) ≤ i ∧ i < (list.length : Int), Con Tryz.prog 83 [agFeat (at_ list i.toNat)] true (Bv true) ∧ True] hB ⟨⟨(by omega), (by omega)⟩, ⟨(con_bool h2 (l09Feat_ok (at_ list i.toNat))), trivial⟩, trivial⟩ ?_
    refine ae_then ?_
    refine aw_false rfl ?_
    refine aw_skip ?_
    refine ae_block 1 ?_
    refine ae_then ?_
    refine aw_r [] [0, 3] [] [slFeat false list, I (i + 1)] [] [inR .i64 (i + 1)] hB ⟨(inR_i64 (by omega) (by omega)), trivial⟩ ?_
    exact ae_again _ (by omega) ⟨(i + 1), rfl, (by omega), (by intro j hj; by_cases ej : j = i.toNat; (subst ej; first | assumption | exact hok); exact hall0 j (by omega)), rfl⟩
   have hall : allN list.length (fun j => okF (at_ list j)) = false := allN_not hi h2
   refine aw_r [(4, .call [(true, .any)] true (Bv false))] [0, 3, 15] [] [slFeat false list, I i, Bv true] [] [(0 : Int) ≤ i ∧ i < (list.length : Int), Con Tryz.prog 83 [agFeat (at_ list i.toNat)] true (Bv false) ∧ True] hB ⟨⟨(by omega), (by omega)⟩, ⟨(con_bool h2 (l09Feat_ok (at_ list i.toNat))), trivial⟩, trivial⟩ ?_
   refine ae_then ?_
   refine aw_true rfl ?_
   refine aR [] [2] [] [Bv false] [] [] hB trivial ?_
   refine aw_ret ?_
   refine ae_ret_block (ae_ret_then (ae_ret_then (ae_ret_block (ae_ret_then ?_))))
   refine ae_ret hB (Bv false) (by kernel_rfl) (.inl (by first | rfl | (refine congrArg Bv ?_; simp [okFeats, inB, *]; done) | (refine congrArg Bv ?_; simp [okFeats, inB, *]; omega) | (refine congrArg Bv ?_; simp_all [okFeats, inB]; done) | (refine congrArg Bv ?_; simp_all [okFeats, inB]; omega))) rfl (fun _ => trivial)
  have hall : allN list.length (fun j => okF (at_ list j)) = true := allN_at (fun j hj => hall0 j (by omega))
  refine aw_r [(3, .dec false)] [0, 3, 7] [] [slFeat false list, I i, Bv false] [] [¬ (i < (list.length : Int))] hB ⟨h1, trivial⟩ ?_
  refine ae_then ?_
  refine aw_false rfl ?_
  refine aw_exit ?_
  refine ae_exit_then ?_
  refine ae_exit_then ?_
  refine ae_exit_same ?_
  refine ae_then ?_
  refine aR [(2, .call [(true, .any), (true, .any), (true, .any)] true (Bv (inB (list.length : Int) 1 72)))] [2] [] [Bv (inB (list.length : Int) 1 72)] [] [Con Tryz.prog 48 [I (list.length : Int), I 1, I 72] true (Bv (inB (list.length : Int) 1 72)) ∧ True] hB ⟨⟨(l00In_ok (list.length : Int) 1 72), trivial⟩, trivial⟩ ?_
  refine aw_ret ?_
  refine ae_ret hB (Bv (inB (list.length : Int) 1 72)) (by kernel_rfl) (.inl (by first | rfl | (refine congrArg Bv ?_; simp [okFeats, inB, *]; done) | (refine congrArg Bv ?_; simp [okFeats, inB, *]; omega) | (refine congrArg Bv ?_; simp_all [okFeats, inB]; done) | (refine congrArg Bv ?_; simp_all [okFeats, inB]; omega))) rfl (fun _ => trivial)


-- spec.l24Near
theorem l24Near_ok (a : Feat) (b : Feat) (ha : okF a = true) (hb : okF b = true) : Con Tryz.prog 107 [agFeat a, agFeat b] true (Bv (nearB a b)) := by
  have ha' := okF_iff.1 ha
  have hb' := okF_iff.1 hb
  refine fn_ok (fn := Tryz.f107) (nt := 28) Tryz.func107 rfl rfl rfl rfl (by simp [taggedL, tagged]) fun B hB => ?_
  refine aR [(0, .new 2), (1, .new 3)] [2, 3] [2, 3] [.ref 2 0, .ref 3 0] [some (bxFeat a), some (bxFeat b)] [] hB trivial ?_
  refine aw_seq ?_
  by_cases h1 : a.D = b.D
  ·by_cases h2 : ((a.X - b.X).natAbs : Int) ≤ 40
   ·refine aw_r [(4, .dec true), (11, .call [(true, .any)] true (I ((a.X - b.X).natAbs : Int))), (12, .dec true), (20, .call [(true, .any)] true (I ((a.Y - b.Y).natAbs : Int)))] [4] [] [Bv (decide (((a.Y - b.Y).natAbs : Int) ≤ 40))] [] [a.D = b.D, inR .i64 (a.X - b.X), Con Tryz.prog 80 [I (a.X - b.X)] true (I ((a.X - b.X).natAbs : Int)) ∧ True, ((a.X - b.X).natAbs : Int) ≤ 40, inR .i64 (a.Y - b.Y), Con Tryz.prog 80 [I (a.Y - b.Y)] true (I ((a.Y - b.Y).natAbs : Int)) ∧ True] hB ⟨h1, (inR_i64 (by omega) (by omega)), ⟨(l09Size_ok (a.X - b.X) (by omega)), trivial⟩, h2, (inR_i64 (by omega) (by omega)), ⟨(l09Size_ok (a.Y - b.Y) (by omega)), trivial⟩, trivial⟩ ?_
    refine ae_then ?_
    refine aw_ret ?_
    refine ae_ret hB (Bv (decide (((a.Y - b.Y).natAbs : Int) ≤ 40))) (by kernel_rfl) (.inl (by first | rfl | (refine congrArg Bv ?_; simp [nearB, *]; done) | (refine congrArg Bv ?_; simp [nearB, *]; omega) | (refine congrArg Bv ?_; simp_all [nearB]; done) | (refine congrArg Bv ?_; simp_all [nearB]; omega))) rfl (fun _ => trivial)
   refine aw_r [(4, .dec true), (11, .call [(true, .any)] true (I ((a.X - b.X).natAbs : Int))), (12, .dec false)] [4] [] [Bv false] [] [a.D = b.D, inR .i64 (a.X - b.X), Con Tryz.prog 80 [I (a.X - b.X)] true (I ((a.X - b.X).natAbs : Int)) ∧ True, ¬ (((a.X - b.X).natAbs : Int) ≤ 40)] hB ⟨h1, (inR_i64 (by omega) (by omega)), ⟨(l09Size_ok (a.X - b.X) (by omega)), trivial⟩, h2, trivial⟩ ?_
   refine ae_then ?_
   refine aw_ret ?_
   refine ae_ret hB (Bv false) (by kernel_rfl) (.inl (by first | rfl | (refine congrArg Bv ?_; simp [nearB, *]; done) | (refine congrArg Bv ?_; simp [nearB, *]; omega) | (refine congrArg Bv ?_; simp_all [nearB]; done) | (refine congrArg Bv ?_; simp_all [nearB]; omega))) rfl (fun _ => trivial)
  refine aw_r [(4, .dec false)] [4] [] [Bv false] [] [¬ (a.D = b.D)] hB ⟨h1, trivial⟩ ?_
  refine ae_then ?_
  refine aw_ret ?_
  refine ae_ret hB (Bv false) (by kernel_rfl) (.inl (by first | rfl | (refine congrArg Bv ?_; simp [nearB, *]; done) | (refine congrArg Bv ?_; simp [nearB, *]; omega) | (refine congrArg Bv ?_; simp_all [nearB]; done) | (refine congrArg Bv ?_; simp_all [nearB]; omega))) rfl (fun _ => trivial)

end Go.Proofs.YtjiflhglbephbaaGreat.Ax
