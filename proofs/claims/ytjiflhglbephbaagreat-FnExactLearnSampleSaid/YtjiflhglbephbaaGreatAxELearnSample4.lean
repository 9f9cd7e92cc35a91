/- Contracts that the statement FnExactLearnSample reaches, part 4. No conditions. -/
import Derived.Test.YtjiflhglbephbaaGreatAxELearnSample3
import Derived.Test.YtjiflhglbephbaaGreatAxR
import Derived.Test.YtjiflhglbephbaaGreatAxS
import Derived.Test.YtjiflhglbephbaaGreatAxY
import Derived.Test.YtjiflhglbephbaaGreatSortShelf
namespace Go.Proofs.YtjiflhglbephbaaGreat.Ax
open Go.RowKit Go.ChangeShapes Go.WideShapes
set_option linter.unusedVariables false
set_option linter.unusedSimpArgs false


-- impl.LearnSample
set_option maxHeartbeats 4000000 in
theorem implLearnSample_ok (w : Writer) (label : ByteArray) (sample : List Feat) (share : Int) (ok : okWriter w) (okz : label.size ≤ 9223372036854775807) : ∃ (ts : List Trained), (ts = (lsR w label sample share).1.Trained) ∧ CallOK Tryz.prog 8 [agWriter w, Sv label, slFeat false sample, I share] (lookO []) false (.tup [.agg [I ((lsR w label sample share).1.Band), .arr 7421], I ((lsR w label sample share).2.1), I ((lsR w label sample share).2.2)]) (lookO [(7421, tOTrained 7431 7432 ts), (7431, tFTrainedBase ts), (7432, tFTrainedFeats ts)]) := by
  have hh : ∃ r : (List Trained), ((r = (lsR w label sample share).1.Trained) ∧ (True)) ∧ CallOK Tryz.prog 8 [agWriter w, Sv label, slFeat false sample, I share] (lookO []) false (.tup [.agg [I ((lsR w label sample share).1.Band), .arr 7421], I ((lsR w label sample share).2.1), I ((lsR w label sample share).2.2)]) (lookO [(7421, tOTrained 7431 7432 r), (7431, tFTrainedBase r), (7432, tFTrainedFeats r)]) := by
    refine fn_okX (Φ := fun r : (List Trained) => (r = (lsR w label sample share).1.Trained) ∧ (True)) [] (fun r => [(7421, tOTrained 7431 7432 r), (7431, tFTrainedBase r), (7432, tFTrainedFeats r)]) (fn := Tryz.f8) (nt := 101) Tryz.func8 rfl rfl (args := [agWriter w, Sv label, slFeat false sample, I share]) rfl (allcons (.inl ⟨rfl, by simp [tagged, taggedL, tagTrained]⟩) (allcons (.inl ⟨rfl, trivial⟩) (allcons (.inl ⟨rfl, tagFeat false _⟩) (allcons (.inl ⟨rfl, trivial⟩) allnil)))) (res := fun r => .tup [.agg [I ((lsR w label sample share).1.Band), .arr 7421], I ((lsR w label sample share).2.1), I ((lsR w label sample share).2.2)]) ?_
    refine xR [(0, .new 4), (1, .new 8)] [1, 2, 3, 4, 8] [4, 8] [Sv label, slFeat false sample, I share, .ref 4 0, .ref 8 0] [some (bxWriter w), some (.box [I 0, nilA])] [] trivial ?_
    refine x_seq ?_
    refine x_block ?_
    refine x_seq ?_
    rcases Bool.eq_false_or_eq_true (okWriter' w) with h1 | h1
    ·have hwk := h1
     have hw := okW_iff.1 hwk
     rcases Bool.eq_false_or_eq_true (okFeats sample 72) with h2 | h2
     ·have oks := h2
      have hon0 := okFeats_n oks
      have hlen : sample.length ≤ 72 := by omega
      refine x_r [(1, .call [(true, .any)] true (Bv true)), (5, .call [(true, .any)] true (Bv true))] [1, 2, 3, 4, 8, 15] [4, 8] [Sv label, slFeat false sample, I share, .ref 4 0, .ref 8 0, Bv false] [some (bxWriter w), some (.box [I 0, nilA])] [Con Tryz.prog 30 [agWriter w] true (Bv true) ∧ True, Con Tryz.prog 31 [slFeat false sample] true (Bv true) ∧ True] ⟨⟨(con_bool h1 (ValidWriter_ok w ok)), trivial⟩, ⟨(con_bool h2 (ValidSeq_ok sample)), trivial⟩, trivial⟩ ?_
      refine xe_then ?_
      refine x_false rfl ?_
      refine x_seq ?_
      rcases Bool.eq_false_or_eq_true (okLabel label) with h3 | h3
      ·have okl := h3
       refine x_r [(1, .call [(true, .any)] true (Bv true))] [1, 2, 3, 4, 8, 25] [4, 8] [Sv label, slFeat false sample, I share, .ref 4 0, .ref 8 0, Bv false] [some (bxWriter w), some (.box [I 0, nilA])] [Con Tryz.prog 32 [Sv label] true (Bv true) ∧ True] ⟨⟨(con_bool h3 (implIsLabel_ok label okz)), trivial⟩, trivial⟩ ?_
       refine xe_then ?_
       refine x_false rfl ?_
       refine x_seq ?_
       rcases Bool.eq_false_or_eq_true (inB share 0 100) with h4 | h4
       ·have hshb := h4
        have hsh := inB_iff.1 h4
        refine x_r [(1, .call [(true, .any), (true, .any), (true, .any)] true (Bv true))] [1, 2, 3, 4, 8, 30] [4, 8] [Sv label, slFeat false sample, I share, .ref 4 0, .ref 8 0, Bv false] [some (bxWriter w), some (.box [I 0, nilA])] [Con Tryz.prog 33 [I share, I 0, I 100] true (Bv true) ∧ True] ⟨⟨(con_bool h4 (within_ok share 0 100)), trivial⟩, trivial⟩ ?_
        refine xe_then ?_
        refine x_false rfl ?_
        refine x_skip ?_
        refine xe_block 0 ?_
        refine xe_then ?_
        refine x_seq ?_
        obtain ⟨v_1, hx1_0, hc1⟩ := learner_ok w label sample hw oks
        have hkk : v_1 = pkI w label sample := hx1_0
        have hkb := pkI_bd w label sample
        rw [← hkk] at hkb
        refine x_r [(3, .call [(true, .any), (true, .any), (true, .any)] true (I v_1))] [1, 2, 3, 4, 8, 11] [4, 8] [Sv label, slFeat false sample, I share, .ref 4 0, .ref 8 0, I v_1] [some (bxWriter w), some (.box [I 0, nilA])] [Con Tryz.prog 34 [agWriter w, Sv label, slFeat false sample] true (I v_1) ∧ True] ⟨⟨hc1, trivial⟩, trivial⟩ ?_
        refine xe_then ?_
        refine x_cut (X := Unit) (fun x => mkS [(1, Sv label), (2, slFeat false sample), (3, I share), (4, .ref 4 0), (8, .ref 8 0), (11, I v_1)] [(4, bxWriter w), (8, .box [I 0, nilA])]) (fun x => (lsR w label sample share = (lrnW w label sample share, lrnA w label sample, 0)) ∧ True) ?_ (fun x hI => ?_)
        ·refine x_seq ?_
         by_cases h5 : v_1 < 0
         ·have hK0 := h5
          by_cases h6 : 40 ≤ (w.Trained.length : Int)
          ·have hst := lsR_5 (w := w) (label := label) (s := sample) (share := share) ⟨hwk, oks⟩ okl hshb ⟨by omega, by omega⟩
           refine x_r [(1, .dec true), (6, .dec true)] [1, 2, 3, 4, 8, 11, 46] [4, 8] [Sv label, slFeat false sample, I share, .ref 4 0, .ref 8 0, I v_1, Bv true] [some (bxWriter w), some (.box [I 0, nilA])] [v_1 < 0, 40 ≤ (w.Trained.length : Int)] ⟨h5, h6, trivial⟩ ?_
           refine xe_then ?_
           refine x_true rfl ?_
           refine xR [] [8, 9, 10] [8] [.ref 8 0, I 0, I 5] [some (.box [I 0, nilA])] [] trivial ?_
           refine x_ret ?_
           refine xe_cut_ret ?_
           refine xe_nilC 8 1 7421 4 (fun _ => []) rfl (by kernel_rfl) ?_
           refine xe_fam 7431 3 (fun _ => 0) (fun _ _ => []) (by kernel_rfl) ?_
           refine xe_fam 7432 3 (fun _ => 0) (fun _ _ => []) (by kernel_rfl) ?_
           refine xe_weak [] (T := [(8, .ref 8 0), (9, I 0), (10, I 5)]) (O := [(8, .box [I ((lsR w label sample share).1.Band), .arr 7421]), (7421, tOTrained 7431 7432 ([] : List Trained)), (7431, tFTrainedBase ([] : List Trained)), (7432, tFTrainedFeats ([] : List Trained))]) rfl (⟨.inl rfl, .inl rfl, .inl rfl, trivial⟩) (⟨.inr ⟨(by first | rfl | (simp [valOf]; done) | (simp [valOf]; first | omega | (rw [hst]; exact rfl) | (show Value.int .i64 _ = Value.int .i64 _; rw [hsA]; done) | (show Value.int .i64 _ = Value.int .i64 _; rw [hsA]; refine congrArg (Value.int .i64) ?_; omega) | (simp [hst]))), ⟨rfl, rfl⟩⟩, .inr ⟨rfl, rfl, fun i hi => absurd hi (Nat.not_lt_zero _)⟩, .inr ⟨rfl, rfl, fun p hp => absurd hp (Nat.not_lt_zero _)⟩, .inr ⟨rfl, rfl, fun p hp => absurd hp (Nat.not_lt_zero _)⟩, trivial⟩) ?_
           refine xe_end ([] : List Trained) (show (([] : List Trained) = (lsR w label sample share).1.Trained) ∧ (True) from ⟨(by first | (rw [hst]; done) | (rw [hst]; rfl) | (rw [hsT, hts, lrnP_neg (by omega)]; subst_vars; rfl) | (rw [hsT, hts, lrnP_pos (by omega)])), trivial⟩) (⟨.inl rfl, .inl rfl, .inl rfl, trivial⟩) (.tup [.agg [I ((lsR w label sample share).1.Band), .arr 7421], I 0, I 5]) (by kernel_rfl) (.inr ⟨⟨rfl, ⟨rfl, rfl⟩⟩, ⟨(by first | rfl | (simp [valOf]; done) | (simp [valOf]; first | omega | (rw [hst]; exact rfl) | (show Value.int .i64 _ = Value.int .i64 _; rw [hsA]; done) | (show Value.int .i64 _ = Value.int .i64 _; rw [hsA]; refine congrArg (Value.int .i64) ?_; omega) | (simp [hst]))), ⟨(by first | rfl | (simp [valOf]; done) | (simp [valOf]; first | omega | (rw [hst]; exact rfl) | (show Value.int .i64 _ = Value.int .i64 _; rw [hsA]; done) | (show Value.int .i64 _ = Value.int .i64 _; rw [hsA]; refine congrArg (Value.int .i64) ?_; omega) | (simp [hst]))), rfl⟩⟩⟩) (fun h => by cases h) (fun h => by cases h)
          refine x_r [(1, .dec true), (6, .dec false)] [1, 2, 3, 4, 8, 11, 46] [4, 8] [Sv label, slFeat false sample, I share, .ref 4 0, .ref 8 0, I v_1, Bv false] [some (bxWriter w), some (.box [I 0, nilA])] [v_1 < 0, ¬ (40 ≤ (w.Trained.length : Int))] ⟨h5, h6, trivial⟩ ?_
          refine xe_then ?_
          refine x_false rfl ?_
          refine x_skip ?_
          refine xe_weak [] (T := [(1, Sv label), (2, slFeat false sample), (3, I share), (4, .ref 4 0), (8, .ref 8 0), (11, I v_1)]) (O := [(4, bxWriter w), (8, .box [I 0, nilA])]) rfl (⟨.inl rfl, .inl rfl, .inl rfl, .inl rfl, .inl rfl, .inl rfl, trivial⟩) (⟨.inl rfl, .inl rfl, trivial⟩) (xe_cut () rfl (show (lsR w label sample share = (lrnW w label sample share, lrnA w label sample, 0)) ∧ True from ⟨(by exact lsR_0 (w := w) (label := label) (s := sample) (share := share) ⟨hwk, oks⟩ okl hshb (fun q => by have h1 := q.1; have h2 := q.2; omega)), trivial⟩))
         refine x_r [(1, .dec false)] [1, 2, 3, 4, 8, 11, 46] [4, 8] [Sv label, slFeat false sample, I share, .ref 4 0, .ref 8 0, I v_1, Bv false] [some (bxWriter w), some (.box [I 0, nilA])] [¬ (v_1 < 0)] ⟨h5, trivial⟩ ?_
         refine xe_then ?_
         refine x_false rfl ?_
         refine x_skip ?_
         refine xe_weak [] (T := [(1, Sv label), (2, slFeat false sample), (3, I share), (4, .ref 4 0), (8, .ref 8 0), (11, I v_1)]) (O := [(4, bxWriter w), (8, .box [I 0, nilA])]) rfl (⟨.inl rfl, .inl rfl, .inl rfl, .inl rfl, .inl rfl, .inl rfl, trivial⟩) (⟨.inl rfl, .inl rfl, trivial⟩) (xe_cut () rfl (show (lsR w label sample share = (lrnW w label sample share, lrnA w label sample, 0)) ∧ True from ⟨(by exact lsR_0 (w := w) (label := label) (s := sample) (share := share) ⟨hwk, oks⟩ okl hshb (fun q => by have h1 := q.1; have h2 := q.2; omega)), trivial⟩))
        obtain ⟨hst, _⟩ : (lsR w label sample share = (lrnW w label sample share, lrnA w label sample, 0)) ∧ True := hI
        show XW _ _ _ _ (mkS [(1, Sv label), (2, slFeat false sample), (3, I share), (4, .ref 4 0), (8, .ref 8 0), (11, I v_1)] [(4, bxWriter w), (8, .box [I 0, nilA])]) _ _
        refine xR [(3, .new 12)] [1, 2, 3, 4, 8, 11, 12] [4, 8, 12] [Sv label, slFeat false sample, I share, .ref 4 0, .ref 8 0, I v_1, .ref 12 0] [some (bxWriter w), some (.box [I 0, nilA]), some (.box [I w.Band, nilA])] [] trivial ?_
        refine x_seq ?_
        refine xR [] [1, 2, 3, 4, 8, 11, 12, 52, 53, 54] [4, 8, 12] [Sv label, slFeat false sample, I share, .ref 4 0, .ref 8 0, I v_1, .ref 12 0, slTrained false w.Trained, I (w.Trained.length : Int), I 0] [some (bxWriter w), some (.box [I 0, nilA]), some (.box [I w.Band, nilA])] [] trivial ?_
        refine x_block ?_
        refine x_nilC 12 1 821 4 (fun _ => []) rfl (by kernel_rfl) ?_
        refine x_fam 7431 3 (fun _ => 0) (fun _ _ => []) (by kernel_rfl) ?_
        refine x_fam 7432 3 (fun _ => 0) (fun _ _ => []) (by kernel_rfl) ?_
        refine x_weak [] (T := [(1, Sv label), (2, slFeat false sample), (3, I share), (4, .ref 4 0), (8, .ref 8 0), (11, I v_1), (12, .ref 12 0), (52, slTrained false w.Trained), (53, I (w.Trained.length : Int)), (54, I 0)]) (O := [(4, bxWriter w), (8, .box [I 0, nilA]), (12, .box [I w.Band, .arr 821]), (821, tOTrained 7431 7432 ([] : List Trained)), (7431, tFTrainedBase ([] : List Trained)), (7432, tFTrainedFeats ([] : List Trained))]) rfl (⟨.inl rfl, .inl rfl, .inl rfl, .inl rfl, .inl rfl, .inl rfl, .inl rfl, .inl rfl, .inl rfl, .inl rfl, trivial⟩) (⟨.inl rfl, .inl rfl, .inl rfl, .inr ⟨rfl, rfl, fun i hi => absurd hi (Nat.not_lt_zero _)⟩, .inr ⟨rfl, rfl, fun p hp => absurd hp (Nat.not_lt_zero _)⟩, .inr ⟨rfl, rfl, fun p hp => absurd hp (Nat.not_lt_zero _)⟩, trivial⟩) ?_
        refine x_loop (X := Int × (List Trained)) (fun x => mkS [(1, Sv label), (2, slFeat false sample), (3, I share), (4, .ref 4 0), (8, .ref 8 0), (11, I v_1), (12, .ref 12 0), (52, slTrained false w.Trained), (53, I (w.Trained.length : Int)), (54, I x.1)] [(4, bxWriter w), (8, .box [I 0, nilA]), (12, .box [I w.Band, .arr 821]), (821, tOTrained 7431 7432 x.2), (7431, tFTrainedBase x.2), (7432, tFTrainedFeats x.2)]) (fun x => (0 ≤ x.1 ∧ x.1 ≤ (w.Trained.length : Int)) ∧ (x.2 = lrnP w sample share v_1 x.1.toNat) ∧ True) (fun x => ((w.Trained.length : Int) - x.1).toNat) (0, ([] : List Trained)) rfl (show (0 ≤ (0 : Int) ∧ (0 : Int) ≤ (w.Trained.length : Int)) ∧ (([] : List Trained) = lrnP w sample share v_1 (0 : Int).toNat) ∧ True from ⟨(by omega), (by rfl), trivial⟩) (fun x hI => ?_)
        obtain ⟨t54, us⟩ := x
        obtain ⟨hi0, hts, _⟩ : (0 ≤ t54 ∧ t54 ≤ (w.Trained.length : Int)) ∧ (us = lrnP w sample share v_1 t54.toNat) ∧ True := hI
        show XW _ _ _ _ (mkS [(1, Sv label), (2, slFeat false sample), (3, I share), (4, .ref 4 0), (8, .ref 8 0), (11, I v_1), (12, .ref 12 0), (52, slTrained false w.Trained), (53, I (w.Trained.length : Int)), (54, I t54)] [(4, bxWriter w), (8, .box [I 0, nilA]), (12, .box [I w.Band, .arr 821]), (821, tOTrained 7431 7432 us), (7431, tFTrainedBase us), (7432, tFTrainedFeats us)]) _ _
        refine x_seq ?_
        by_cases h7 : t54 < (w.Trained.length : Int)
        ·have hi : t54.toNat < w.Trained.length := by omega
         have hix : ((t54.toNat : Nat) : Int) = t54 := by omega
         have htr := hw.2.2 _ hi
         have htn := okFeats_n (okTr_iff.1 htr).2.2.1
         have htb := okFeats_n (okTr_iff.1 htr).2.1
         have hon := okFeats_n oks
         have hnx : (t54 + 1).toNat = t54.toNat + 1 := by omega
         have htl : us.length = t54.toNat := by rw [hts, lrnP_len]
         refine x_r [(0, .dec true)] [1, 2, 3, 4, 8, 11, 12, 52, 53, 54, 55] [4, 8, 12, 821, 7431, 7432] [Sv label, slFeat false sample, I share, .ref 4 0, .ref 8 0, I v_1, .ref 12 0, slTrained false w.Trained, I (w.Trained.length : Int), I t54, Bv true] [some (bxWriter w), some (.box [I 0, nilA]), some (.box [I w.Band, .arr 821]), some (tOTrained 7431 7432 us), some (tFTrainedBase us), some (tFTrainedFeats us)] [t54 < (w.Trained.length : Int)] ⟨h7, trivial⟩ ?_
         refine xe_then ?_
         refine x_seq ?_
         refine x_true rfl ?_
         refine x_skip ?_
         refine xe_then ?_
         refine x_seq ?_
         refine x_block ?_
         refine xR [(3, .new 14)] [1, 2, 3, 4, 8, 11, 12, 13, 14, 52, 53, 54] [4, 8, 12, 14, 821, 7431, 7432] [Sv label, slFeat false sample, I share, .ref 4 0, .ref 8 0, I v_1, .ref 12 0, I t54, .ref 14 0, slTrained false w.Trained, I (w.Trained.length : Int), I t54] [some (bxWriter w), some (.box [I 0, nilA]), some (.box [I w.Band, .arr 821]), some (bxTrained (at_ w.Trained t54.toNat)), some (tOTrained 7431 7432 us), some (tFTrainedBase us), some (tFTrainedFeats us)] [(0 : Int) ≤ t54 ∧ t54 < (w.Trained.length : Int)] ⟨⟨(by first | omega | (rw [hst]; exact rfl) | (show Value.int .i64 _ = Value.int .i64 _; rw [hsA]; done) | (show Value.int .i64 _ = Value.int .i64 _; rw [hsA]; refine congrArg (Value.int .i64) ?_; omega) | (simp [hst])), (by first | omega | (rw [hst]; exact rfl) | (show Value.int .i64 _ = Value.int .i64 _; rw [hsA]; done) | (show Value.int .i64 _ = Value.int .i64 _; rw [hsA]; refine congrArg (Value.int .i64) ?_; omega) | (simp [hst]))⟩, trivial⟩ ?_
         refine x_seq ?_
         refine x_seq ?_
         by_cases h8 : t54 = v_1
         ·have hkt : t54 = v_1 := h8
          have hlq := hkb.2 (by omega)
          rw [show v_1.toNat = t54.toNat from by omega] at hlq
          have hlq := lrn_iff.1 hlq
          refine x_r [(2, .dec true)] [1, 2, 3, 4, 8, 11, 12, 14, 52, 53, 54, 61] [4, 8, 12, 14, 821, 7431, 7432] [Sv label, slFeat false sample, I share, .ref 4 0, .ref 8 0, I v_1, .ref 12 0, .ref 14 0, slTrained false w.Trained, I (w.Trained.length : Int), I t54, Bv true] [some (bxWriter w), some (.box [I 0, nilA]), some (.box [I w.Band, .arr 821]), some (bxTrained (at_ w.Trained t54.toNat)), some (tOTrained 7431 7432 us), some (tFTrainedBase us), some (tFTrainedFeats us)] [t54 = v_1] ⟨h8, trivial⟩ ?_
          refine xe_then ?_
          refine x_true rfl ?_
          obtain ⟨v_2, hx2_0, hc2⟩ := adapted_ok (at_ w.Trained t54.toNat) sample w.Band share htr oks hlq.2.2.1 hlq.2.2.2 hsh hlq.2.1
          have hvl : v_2.Base.length ≤ 72 ∧ v_2.Feats.length ≤ 72 := by rw [hx2_0, adpT_len]; exact ⟨by have := htb; exact (show (at_ w.Trained t54.toNat).Base.length ≤ 72 by omega), by omega⟩
          have hvp := lrnP_y (w := w) (s := sample) (share := share) (n := t54.toNat) (y := v_2) (hix.trans hkt) (by rw [hx2_0])
          refine x_r [(5, .call [(true, .any), (true, .any), (true, .any), (true, .any)] true (agTrainedT v_2))] [1, 2, 3, 4, 8, 11, 12, 14, 52, 53, 54] [4, 8, 12, 14, 821, 7431, 7432] [Sv label, slFeat false sample, I share, .ref 4 0, .ref 8 0, I v_1, .ref 12 0, .ref 14 0, slTrained false w.Trained, I (w.Trained.length : Int), I t54] [some (bxWriter w), some (.box [I 0, nilA]), some (.box [I w.Band, .arr 821]), some (bxTrainedT v_2), some (tOTrained 7431 7432 us), some (tFTrainedBase us), some (tFTrainedFeats us)] [Con Tryz.prog 35 [agTrained (at_ w.Trained t54.toNat), slFeat false sample, I w.Band, I share] true (agTrainedT v_2) ∧ True] ⟨⟨hc2, trivial⟩, trivial⟩ ?_
          refine xe_then ?_
          obtain ⟨out_3, hx3_0, hc3⟩ := cloneF0_ok v_2.Base (by omega)
          obtain ⟨out_4, hx4_0, hc4⟩ := cloneF1_ok v_2.Feats (by omega)
          refine x_r [(6, .lend [] [(8311, tAFeat out_3)] [(false, slFeat false v_2.Base)] false (.arr 8311)), (9, .lend [] [(8312, tAFeat out_4)] [(false, slFeat false v_2.Feats)] false (.arr 8312)), (13, .new 81), (14, .new 82)] [1, 2, 3, 4, 8, 11, 12, 52, 53, 54] [4, 8, 12, 82, 7431, 7432, 8311, 8312] [Sv label, slFeat false sample, I share, .ref 4 0, .ref 8 0, I v_1, .ref 12 0, slTrained false w.Trained, I (w.Trained.length : Int), I t54] [some (bxWriter w), some (.box [I 0, nilA]), some (.box [I w.Band, .arr 82]), some (.oar [7431, 7432, 8311, 8312] 4 (us.length + 1) (catF us.length (oTrained 7431 7432 us) (litF [Sv v_2.Label, .arr 8311, .arr 8312, I v_2.Count] 4))), some (tFTrainedBase us), some (tFTrainedFeats us), some (tAFeat out_3), some (tAFeat out_4)] [CallOK Tryz.prog 36 [slFeat false v_2.Base] (lookO []) false (.arr 8311) (lookO [(8311, tAFeat out_3)]) ∧ ((false = true → true = true) ∧ 3 = 3 ∧ v_2.Base.length = v_2.Base.length ∧ ∀ i_, i_ < v_2.Base.length → (fFeat v_2.Base) i_ = (fFeat v_2.Base) i_ ∨ (AV.idsL ((fFeat v_2.Base) i_) = [] ∧ leL (fun _ => none) false ((fFeat v_2.Base) i_) ((fFeat v_2.Base) i_))) ∧ True, CallOK Tryz.prog 36 [slFeat false v_2.Feats] (lookO []) false (.arr 8312) (lookO [(8312, tAFeat out_4)]) ∧ ((false = true → true = true) ∧ 3 = 3 ∧ v_2.Feats.length = v_2.Feats.length ∧ ∀ i_, i_ < v_2.Feats.length → (fFeat v_2.Feats) i_ = (fFeat v_2.Feats) i_ ∨ (AV.idsL ((fFeat v_2.Feats) i_) = [] ∧ leL (fun _ => none) false ((fFeat v_2.Feats) i_) ((fFeat v_2.Feats) i_))) ∧ True, (us.length + 1) * 72 ≤ 140737488355328] ⟨⟨hc3, ⟨(fun h => by cases h), rfl, rfl, fun i _ => .inl rfl⟩, trivial⟩, ⟨hc4, ⟨(fun h => by cases h), rfl, rfl, fun i _ => .inl rfl⟩, trivial⟩, (by first | omega | (rw [hst]; exact rfl) | (show Value.int .i64 _ = Value.int .i64 _; rw [hsA]; done) | (show Value.int .i64 _ = Value.int .i64 _; rw [hsA]; refine congrArg (Value.int .i64) ?_; omega) | (simp [hst])), trivial⟩ ?_
          refine xe_block 2 ?_
          refine xe_then ?_
          refine x_r [] [1, 2, 3, 4, 8, 11, 12, 52, 53, 54] [4, 8, 12, 82, 7431, 7432, 8311, 8312] [Sv label, slFeat false sample, I share, .ref 4 0, .ref 8 0, I v_1, .ref 12 0, slTrained false w.Trained, I (w.Trained.length : Int), I (t54 + 1)] [some (bxWriter w), some (.box [I 0, nilA]), some (.box [I w.Band, .arr 82]), some (.oar [7431, 7432, 8311, 8312] 4 (us.length + 1) (catF us.length (oTrained 7431 7432 us) (litF [Sv v_2.Label, .arr 8311, .arr 8312, I v_2.Count] 4))), some (tFTrainedBase us), some (tFTrainedFeats us), some (tAFeat out_3), some (tAFeat out_4)] [inR .i64 (t54 + 1)] ⟨(inR_i64 (by first | omega | (rw [hst]; exact rfl) | (show Value.int .i64 _ = Value.int .i64 _; rw [hsA]; done) | (show Value.int .i64 _ = Value.int .i64 _; rw [hsA]; refine congrArg (Value.int .i64) ?_; omega) | (simp [hst])) (by first | omega | (rw [hst]; exact rfl) | (show Value.int .i64 _ = Value.int .i64 _; rw [hsA]; done) | (show Value.int .i64 _ = Value.int .i64 _; rw [hsA]; refine congrArg (Value.int .i64) ?_; omega) | (simp [hst]))), trivial⟩ ?_
          refine xe_join 8311 7431 rfl rfl rfl ?_
          refine xe_join 8312 7432 rfl rfl rfl ?_
          refine xe_weak [(821, 82)] (T := [(1, Sv label), (2, slFeat false sample), (3, I share), (4, .ref 4 0), (8, .ref 8 0), (11, I v_1), (12, .ref 12 0), (52, slTrained false w.Trained), (53, I (w.Trained.length : Int)), (54, I (t54 + 1))]) (O := [(4, bxWriter w), (8, .box [I 0, nilA]), (12, .box [I w.Band, .arr 821]), (821, tOTrained 7431 7432 (us ++ [(Trained.mk v_2.Label out_3 out_4 v_2.Count)])), (7431, tFTrainedBase (us ++ [(Trained.mk v_2.Label out_3 out_4 v_2.Count)])), (7432, tFTrainedFeats (us ++ [(Trained.mk v_2.Label out_3 out_4 v_2.Count)]))]) rfl (⟨.inl rfl, .inl rfl, .inl rfl, .inl rfl, .inl rfl, .inl rfl, .inl rfl, .inl rfl, .inl rfl, .inl rfl, trivial⟩) (⟨.inl rfl, .inl rfl, .inl rfl, .inr ⟨rfl, rfl, (by simp), fun i hi => .inl (ocatTrained rfl rfl rfl rfl rfl rfl i hi)⟩, .inr (fcatTrainedBase (Trained.mk v_2.Label out_3 out_4 v_2.Count) (by first | rfl | (simp; done)) (fun i_ hi_ => (by first | rfl | fail))), .inr (fcatTrainedFeats (Trained.mk v_2.Label out_3 out_4 v_2.Count) (by first | rfl | (simp; done)) (fun i_ hi_ => (by first | rfl | fail))), trivial⟩) (xe_again ((t54 + 1), (us ++ [(Trained.mk v_2.Label out_3 out_4 v_2.Count)])) rfl (show (0 ≤ (t54 + 1) ∧ (t54 + 1) ≤ (w.Trained.length : Int)) ∧ ((us ++ [(Trained.mk v_2.Label out_3 out_4 v_2.Count)]) = lrnP w sample share v_1 (t54 + 1).toNat) ∧ True from ⟨(by omega), (by rw [hnx]; clear hkb hst; subst_vars; exact hvp), trivial⟩) (by first | (show (((w.Trained.length : Int) - (t54 + 1)).toNat : Nat) < ((w.Trained.length : Int) - t54).toNat; omega) | (dsimp only; omega)))
         have hvp := lrnP_n (w := w) (s := sample) (share := share) (n := t54.toNat) (y := at_ w.Trained t54.toNat) (fun q => h8 (hix.symm.trans q)) rfl
         refine x_r [(2, .dec false)] [1, 2, 3, 4, 8, 11, 12, 14, 52, 53, 54, 61] [4, 8, 12, 14, 821, 7431, 7432] [Sv label, slFeat false sample, I share, .ref 4 0, .ref 8 0, I v_1, .ref 12 0, .ref 14 0, slTrained false w.Trained, I (w.Trained.length : Int), I t54, Bv false] [some (bxWriter w), some (.box [I 0, nilA]), some (.box [I w.Band, .arr 821]), some (bxTrained (at_ w.Trained t54.toNat)), some (tOTrained 7431 7432 us), some (tFTrainedBase us), some (tFTrainedFeats us)] [¬ (t54 = v_1)] ⟨h8, trivial⟩ ?_
         refine xe_then ?_
         refine x_false rfl ?_
         refine x_skip ?_
         refine xe_then ?_
         obtain ⟨out_5, hx5_0, hc5⟩ := cloneF0_ok ((at_ w.Trained t54.toNat).Base) (by omega)
         obtain ⟨out_6, hx6_0, hc6⟩ := cloneF1_ok ((at_ w.Trained t54.toNat).Feats) (by omega)
         refine x_r [(6, .lend [] [(8311, tAFeat out_5)] [(true, .any)] false (.arr 8311)), (9, .lend [] [(8312, tAFeat out_6)] [(true, .any)] false (.arr 8312)), (13, .new 81), (14, .new 82)] [1, 2, 3, 4, 8, 11, 12, 52, 53, 54] [4, 8, 12, 82, 7431, 7432, 8311, 8312] [Sv label, slFeat false sample, I share, .ref 4 0, .ref 8 0, I v_1, .ref 12 0, slTrained false w.Trained, I (w.Trained.length : Int), I t54] [some (bxWriter w), some (.box [I 0, nilA]), some (.box [I w.Band, .arr 82]), some (.oar [7431, 7432, 8311, 8312] 4 (us.length + 1) (catF us.length (oTrained 7431 7432 us) (litF [Sv ((at_ w.Trained t54.toNat).Label), .arr 8311, .arr 8312, I ((at_ w.Trained t54.toNat).Count)] 4))), some (tFTrainedBase us), some (tFTrainedFeats us), some (tAFeat out_5), some (tAFeat out_6)] [CallOK Tryz.prog 36 [slFeat false ((at_ w.Trained t54.toNat).Base)] (lookO []) false (.arr 8311) (lookO [(8311, tAFeat out_5)]) ∧ True, CallOK Tryz.prog 36 [slFeat false ((at_ w.Trained t54.toNat).Feats)] (lookO []) false (.arr 8312) (lookO [(8312, tAFeat out_6)]) ∧ True, (us.length + 1) * 72 ≤ 140737488355328] ⟨⟨hc5, trivial⟩, ⟨hc6, trivial⟩, (by first | omega | (rw [hst]; exact rfl) | (show Value.int .i64 _ = Value.int .i64 _; rw [hsA]; done) | (show Value.int .i64 _ = Value.int .i64 _; rw [hsA]; refine congrArg (Value.int .i64) ?_; omega) | (simp [hst])), trivial⟩ ?_
         refine xe_block 2 ?_
         refine xe_then ?_
         refine x_r [] [1, 2, 3, 4, 8, 11, 12, 52, 53, 54] [4, 8, 12, 82, 7431, 7432, 8311, 8312] [Sv label, slFeat false sample, I share, .ref 4 0, .ref 8 0, I v_1, .ref 12 0, slTrained false w.Trained, I (w.Trained.length : Int), I (t54 + 1)] [some (bxWriter w), some (.box [I 0, nilA]), some (.box [I w.Band, .arr 82]), some (.oar [7431, 7432, 8311, 8312] 4 (us.length + 1) (catF us.length (oTrained 7431 7432 us) (litF [Sv ((at_ w.Trained t54.toNat).Label), .arr 8311, .arr 8312, I ((at_ w.Trained t54.toNat).Count)] 4))), some (tFTrainedBase us), some (tFTrainedFeats us), some (tAFeat out_5), some (tAFeat out_6)] [inR .i64 (t54 + 1)] ⟨(inR_i64 (by first | omega | (rw [hst]; exact rfl) | (show Value.int .i64 _ = Value.int .i64 _; rw [hsA]; done) | (show Value.int .i64 _ = Value.int .i64 _; rw [hsA]; refine congrArg (Value.int .i64) ?_; omega) | (simp [hst])) (by first | omega | (rw [hst]; exact rfl) | (show Value.int .i64 _ = Value.int .i64 _; rw [hsA]; done) | (show Value.int .i64 _ = Value.int .i64 _; rw [hsA]; refine congrArg (Value.int .i64) ?_; omega) | (simp [hst]))), trivial⟩ ?_
         refine xe_join 8311 7431 rfl rfl rfl ?_
         refine xe_join 8312 7432 rfl rfl rfl ?_
         refine xe_weak [(821, 82)] (T := [(1, Sv label), (2, slFeat false sample), (3, I share), (4, .ref 4 0), (8, .ref 8 0), (11, I v_1), (12, .ref 12 0), (52, slTrained false w.Trained), (53, I (w.Trained.length : Int)), (54, I (t54 + 1))]) (O := [(4, bxWriter w), (8, .box [I 0, nilA]), (12, .box [I w.Band, .arr 821]), (821, tOTrained 7431 7432 (us ++ [(Trained.mk ((at_ w.Trained t54.toNat).Label) out_5 out_6 ((at_ w.Trained t54.toNat).Count))])), (7431, tFTrainedBase (us ++ [(Trained.mk ((at_ w.Trained t54.toNat).Label) out_5 out_6 ((at_ w.Trained t54.toNat).Count))])), (7432, tFTrainedFeats (us ++ [(Trained.mk ((at_ w.Trained t54.toNat).Label) out_5 out_6 ((at_ w.Trained t54.toNat).Count))]))]) rfl (⟨.inl rfl, .inl rfl, .inl rfl, .inl rfl, .inl rfl, .inl rfl, .inl rfl, .inl rfl, .inl rfl, .inl rfl, trivial⟩) (⟨.inl rfl, .inl rfl, .inl rfl, .inr ⟨rfl, rfl, (by simp), fun i hi => .inl (ocatTrained rfl rfl rfl rfl rfl rfl i hi)⟩, .inr (fcatTrainedBase (Trained.mk ((at_ w.Trained t54.toNat).Label) out_5 out_6 ((at_ w.Trained t54.toNat).Count)) (by first | rfl | (simp; done)) (fun i_ hi_ => (by first | rfl | fail))), .inr (fcatTrainedFeats (Trained.mk ((at_ w.Trained t54.toNat).Label) out_5 out_6 ((at_ w.Trained t54.toNat).Count)) (by first | rfl | (simp; done)) (fun i_ hi_ => (by first | rfl | fail))), trivial⟩) (xe_again ((t54 + 1), (us ++ [(Trained.mk ((at_ w.Trained t54.toNat).Label) out_5 out_6 ((at_ w.Trained t54.toNat).Count))])) rfl (show (0 ≤ (t54 + 1) ∧ (t54 + 1) ≤ (w.Trained.length : Int)) ∧ ((us ++ [(Trained.mk ((at_ w.Trained t54.toNat).Label) out_5 out_6 ((at_ w.Trained t54.toNat).Count))]) = lrnP w sample share v_1 (t54 + 1).toNat) ∧ True from ⟨(by omega), (by rw [hnx]; clear hkb hst; subst_vars; exact hvp), trivial⟩) (by first | (show (((w.Trained.length : Int) - (t54 + 1)).toNat : Nat) < ((w.Trained.length : Int) - t54).toNat; omega) | (dsimp only; omega)))
        have hie : t54.toNat = w.Trained.length := by omega
        rw [hie] at hts
        have htl : us.length = w.Trained.length := by rw [hts, lrnP_len]
        refine x_r [(0, .dec false)] [1, 2, 3, 4, 8, 11, 12, 52, 53, 54, 55] [4, 8, 12, 821, 7431, 7432] [Sv label, slFeat false sample, I share, .ref 4 0, .ref 8 0, I v_1, .ref 12 0, slTrained false w.Trained, I (w.Trained.length : Int), I t54, Bv false] [some (bxWriter w), some (.box [I 0, nilA]), some (.box [I w.Band, .arr 821]), some (tOTrained 7431 7432 us), some (tFTrainedBase us), some (tFTrainedFeats us)] [¬ (t54 < (w.Trained.length : Int))] ⟨h7, trivial⟩ ?_
        refine xe_then ?_
        refine x_seq ?_
        refine x_false rfl ?_
        refine x_exit ?_
        refine xe_exit_then ?_
        refine xe_loop_exit ?_
        refine xe_exit_same ?_
        refine xe_then ?_
        refine x_seq ?_
        refine x_seq ?_
        by_cases h9 : v_1 < 0
        ·have hst_ := hst
         have hln := ls_neg (w := w) (l := label) (s := sample) (share := share) (by omega)
         have hsA : (lsR w label sample share).2.1 = (w.Trained.length : Int) := by rw [hst]; exact hln.1
         have hsT : (lsR w label sample share).1.Trained = w.Trained ++ [⟨label, sample, sample, 0⟩] := by rw [hst]; exact hln.2
         have hsW : (lsR w label sample share).1 = Writer.mk w.Band (w.Trained ++ [⟨label, sample, sample, 0⟩]) := by rw [hst]; exact congrArg (Writer.mk w.Band) hln.2
         refine x_r [(1, .dec true)] [1, 2, 8, 11, 12, 86] [8, 12, 821, 7431, 7432] [Sv label, slFeat false sample, .ref 8 0, I v_1, .ref 12 0, Bv true] [some (.box [I 0, nilA]), some (.box [I w.Band, .arr 821]), some (tOTrained 7431 7432 us), some (tFTrainedBase us), some (tFTrainedFeats us)] [v_1 < 0] ⟨h9, trivial⟩ ?_
         refine xe_then ?_
         refine x_true rfl ?_
         refine xR [] [1, 2, 8, 11, 12] [8, 12, 821, 7431, 7432] [Sv label, slFeat false sample, .ref 8 0, I (us.length : Int), .ref 12 0] [some (.box [I 0, nilA]), some (.box [I w.Band, .arr 821]), some (tOTrained 7431 7432 us), some (tFTrainedBase us), some (tFTrainedFeats us)] [] trivial ?_
         obtain ⟨bs_7, fs_7, hx7_0, hx7_1, hc7⟩ := startTrained_ok (Template.mk label sample) hlen
         refine x_r [(5, .lend [] [(8311, tAFeat bs_7), (8312, tAFeat fs_7)] [(true, .any)] false (.agg [Sv ((Template.mk label sample).Label), .arr 8311, .arr 8312, I 0])), (6, .new 96), (7, .new 97)] [8, 11, 12] [8, 12, 97, 7431, 7432, 8311, 8312] [.ref 8 0, I (us.length : Int), .ref 12 0] [some (.box [I 0, nilA]), some (.box [I w.Band, .arr 97]), some (.oar [7431, 7432, 8311, 8312] 4 (us.length + 1) (catF us.length (oTrained 7431 7432 us) (litF [Sv ((Template.mk label sample).Label), .arr 8311, .arr 8312, I 0] 4))), some (tFTrainedBase us), some (tFTrainedFeats us), some (tAFeat bs_7), some (tAFeat fs_7)] [CallOK Tryz.prog 37 [.agg [Sv label, slFeat false sample]] (lookO []) false (.agg [Sv ((Template.mk label sample).Label), .arr 8311, .arr 8312, I 0]) (lookO [(8311, tAFeat bs_7), (8312, tAFeat fs_7)]) ∧ True, (us.length + 1) * 72 ≤ 140737488355328] ⟨⟨hc7, trivial⟩, (by first | omega | (rw [hst]; exact rfl) | (show Value.int .i64 _ = Value.int .i64 _; rw [hsA]; done) | (show Value.int .i64 _ = Value.int .i64 _; rw [hsA]; refine congrArg (Value.int .i64) ?_; omega) | (simp [hst])), trivial⟩ ?_
         refine xe_then ?_
         refine xR [] [8, 9, 10] [8, 97, 7431, 7432, 8311, 8312] [.ref 8 0, I (us.length : Int), I 0] [some (.box [I w.Band, .arr 97]), some (.oar [7431, 7432, 8311, 8312] 4 (us.length + 1) (catF us.length (oTrained 7431 7432 us) (litF [Sv ((Template.mk label sample).Label), .arr 8311, .arr 8312, I 0] 4))), some (tFTrainedBase us), some (tFTrainedFeats us), some (tAFeat bs_7), some (tAFeat fs_7)] [] trivial ?_
         refine x_ret ?_
         refine xe_join 8311 7431 rfl rfl rfl ?_
         refine xe_join 8312 7432 rfl rfl rfl ?_
         refine xe_weak [] (T := [(8, .ref 8 0), (9, I (us.length : Int)), (10, I 0)]) (O := [(8, .box [I w.Band, .arr 97]), (97, tOTrained 7431 7432 (us ++ [(Trained.mk ((Template.mk label sample).Label) bs_7 fs_7 0)])), (7431, tFTrainedBase (us ++ [(Trained.mk ((Template.mk label sample).Label) bs_7 fs_7 0)])), (7432, tFTrainedFeats (us ++ [(Trained.mk ((Template.mk label sample).Label) bs_7 fs_7 0)]))]) rfl (⟨.inl rfl, .inl rfl, .inl rfl, trivial⟩) (⟨.inl rfl, .inr ⟨rfl, rfl, (by simp), fun i hi => .inl (ocatTrained rfl rfl rfl rfl rfl rfl i hi)⟩, .inr (fcatTrainedBase (Trained.mk ((Template.mk label sample).Label) bs_7 fs_7 0) (by first | rfl | (simp; done)) (fun i_ hi_ => (by first | rfl | fail))), .inr (fcatTrainedFeats (Trained.mk ((Template.mk label sample).Label) bs_7 fs_7 0) (by first | rfl | (simp; done)) (fun i_ hi_ => (by first | rfl | fail))), trivial⟩) ?_
         refine xe_weak [(7421, 97)] (T := [(8, .ref 8 0), (9, I (us.length : Int)), (10, I 0)]) (O := [(8, .box [I ((lsR w label sample share).1.Band), .arr 7421]), (7421, tOTrained 7431 7432 (us ++ [(Trained.mk ((Template.mk label sample).Label) bs_7 fs_7 0)])), (7431, tFTrainedBase (us ++ [(Trained.mk ((Template.mk label sample).Label) bs_7 fs_7 0)])), (7432, tFTrainedFeats (us ++ [(Trained.mk ((Template.mk label sample).Label) bs_7 fs_7 0)]))]) rfl (⟨.inl rfl, .inl rfl, .inl rfl, trivial⟩) (⟨.inr ⟨(by first | rfl | (simp [valOf]; done) | (simp [valOf]; first | omega | (rw [hst]; exact rfl) | (show Value.int .i64 _ = Value.int .i64 _; rw [hsA]; done) | (show Value.int .i64 _ = Value.int .i64 _; rw [hsA]; refine congrArg (Value.int .i64) ?_; omega) | (simp [hst]))), ⟨rfl, rfl⟩⟩, .inl rfl, .inl rfl, .inl rfl, trivial⟩) ?_
         refine xe_end (us ++ [(Trained.mk ((Template.mk label sample).Label) bs_7 fs_7 0)]) (show ((us ++ [(Trained.mk ((Template.mk label sample).Label) bs_7 fs_7 0)]) = (lsR w label sample share).1.Trained) ∧ (True) from ⟨(by first | (rw [hst]; done) | (rw [hst]; rfl) | (rw [hsT, hts, lrnP_neg (by omega)]; subst_vars; rfl) | (rw [hsT, hts, lrnP_pos (by omega)])), trivial⟩) (⟨.inl rfl, .inl rfl, .inl rfl, trivial⟩) (.tup [.agg [I ((lsR w label sample share).1.Band), .arr 7421], I (us.length : Int), I 0]) (by kernel_rfl) (.inr ⟨⟨rfl, ⟨rfl, rfl⟩⟩, ⟨(by first | rfl | (simp [valOf]; done) | (simp [valOf]; first | omega | (rw [hst]; exact rfl) | (show Value.int .i64 _ = Value.int .i64 _; rw [hsA]; done) | (show Value.int .i64 _ = Value.int .i64 _; rw [hsA]; refine congrArg (Value.int .i64) ?_; omega) | (simp [hst]))), ⟨(by first | rfl | (simp [valOf]; done) | (simp [valOf]; first | omega | (rw [hst]; exact rfl) | (show Value.int .i64 _ = Value.int .i64 _; rw [hsA]; done) | (show Value.int .i64 _ = Value.int .i64 _; rw [hsA]; refine congrArg (Value.int .i64) ?_; omega) | (simp [hst]))), rfl⟩⟩⟩) (fun h => by cases h) (fun h => by cases h)
        have hst_ := hst
        have hln := ls_pos (w := w) (l := label) (s := sample) (share := share) (by omega)
        rw [← hkk] at hln
        have hsA : (lsR w label sample share).2.1 = v_1 := by rw [hst]; exact hln.1
        have hsT : (lsR w label sample share).1.Trained = w.Trained.set v_1.toNat (adpT (at_ w.Trained v_1.toNat) sample w.Band share) := by rw [hst]; exact hln.2
        have hsW : (lsR w label sample share).1 = Writer.mk w.Band (w.Trained.set v_1.toNat (adpT (at_ w.Trained v_1.toNat) sample w.Band share)) := by rw [hst]; exact congrArg (Writer.mk w.Band) hln.2
        have hlq := hkb.2 (by omega)
        have hlq := lrn_iff.1 hlq
        have hkl : v_1.toNat < w.Trained.length := by omega
        have htr := hw.2.2 _ hkl
        have htn := okFeats_n (okTr_iff.1 htr).2.2.1
        have htb := okFeats_n (okTr_iff.1 htr).2.1
        refine x_r [(1, .dec false)] [1, 2, 8, 11, 12, 86] [8, 12, 821, 7431, 7432] [Sv label, slFeat false sample, .ref 8 0, I v_1, .ref 12 0, Bv false] [some (.box [I 0, nilA]), some (.box [I w.Band, .arr 821]), some (tOTrained 7431 7432 us), some (tFTrainedBase us), some (tFTrainedFeats us)] [¬ (v_1 < 0)] ⟨h9, trivial⟩ ?_
        refine xe_then ?_
        refine x_false rfl ?_
        refine x_skip ?_
        refine xe_then ?_
        refine xR [] [8, 9, 10] [8, 821, 7431, 7432] [.ref 8 0, I v_1, I 0] [some (.box [I w.Band, .arr 821]), some (tOTrained 7431 7432 us), some (tFTrainedBase us), some (tFTrainedFeats us)] [] trivial ?_
        refine x_ret ?_
        refine xe_weak [(7421, 821)] (T := [(8, .ref 8 0), (9, I v_1), (10, I 0)]) (O := [(8, .box [I ((lsR w label sample share).1.Band), .arr 7421]), (7421, tOTrained 7431 7432 us), (7431, tFTrainedBase us), (7432, tFTrainedFeats us)]) rfl (⟨.inl rfl, .inl rfl, .inl rfl, trivial⟩) (⟨.inr ⟨(by first | rfl | (simp [valOf]; done) | (simp [valOf]; first | omega | (rw [hst]; exact rfl) | (show Value.int .i64 _ = Value.int .i64 _; rw [hsA]; done) | (show Value.int .i64 _ = Value.int .i64 _; rw [hsA]; refine congrArg (Value.int .i64) ?_; omega) | (simp [hst]))), ⟨rfl, rfl⟩⟩, .inl rfl, .inl rfl, .inl rfl, trivial⟩) ?_
        refine xe_end us (show (us = (lsR w label sample share).1.Trained) ∧ (True) from ⟨(by first | (rw [hst]; done) | (rw [hst]; rfl) | (rw [hsT, hts, lrnP_neg (by omega)]; subst_vars; rfl) | (rw [hsT, hts, lrnP_pos (by omega)])), trivial⟩) (⟨.inl rfl, .inl rfl, .inl rfl, trivial⟩) (.tup [.agg [I ((lsR w label sample share).1.Band), .arr 7421], I v_1, I 0]) (by kernel_rfl) (.inr ⟨⟨rfl, ⟨rfl, rfl⟩⟩, ⟨(by first | rfl | (simp [valOf]; done) | (simp [valOf]; first | omega | (rw [hst]; exact rfl) | (show Value.int .i64 _ = Value.int .i64 _; rw [hsA]; done) | (show Value.int .i64 _ = Value.int .i64 _; rw [hsA]; refine congrArg (Value.int .i64) ?_; omega) | (simp [hst]))), ⟨(by first | rfl | (simp [valOf]; done) | (simp [valOf]; first | omega | (rw [hst]; exact rfl) | (show Value.int .i64 _ = Value.int .i64 _; rw [hsA]; done) | (show Value.int .i64 _ = Value.int .i64 _; rw [hsA]; refine congrArg (Value.int .i64) ?_; omega) | (simp [hst]))), rfl⟩⟩⟩) (fun h => by cases h) (fun h => by cases h)
       have hst := lsR_2 (w := w) (label := label) (s := sample) (share := share) ⟨hwk, oks⟩ okl (by rw [h4]; decide)
       refine x_r [(1, .call [(true, .any), (true, .any), (true, .any)] true (Bv false))] [1, 2, 3, 4, 8, 30] [4, 8] [Sv label, slFeat false sample, I share, .ref 4 0, .ref 8 0, Bv true] [some (bxWriter w), some (.box [I 0, nilA])] [Con Tryz.prog 33 [I share, I 0, I 100] true (Bv false) ∧ True] ⟨⟨(con_bool h4 (within_ok share 0 100)), trivial⟩, trivial⟩ ?_
       refine xe_then ?_
       refine x_true rfl ?_
       refine xR [] [8, 9, 10] [8] [.ref 8 0, I 0, I 2] [some (.box [I 0, nilA])] [] trivial ?_
       refine x_ret ?_
       refine xe_ret_block (xe_ret_then ?_)
       refine xe_nilC 8 1 7421 4 (fun _ => []) rfl (by kernel_rfl) ?_
       refine xe_fam 7431 3 (fun _ => 0) (fun _ _ => []) (by kernel_rfl) ?_
       refine xe_fam 7432 3 (fun _ => 0) (fun _ _ => []) (by kernel_rfl) ?_
       refine xe_weak [] (T := [(8, .ref 8 0), (9, I 0), (10, I 2)]) (O := [(8, .box [I ((lsR w label sample share).1.Band), .arr 7421]), (7421, tOTrained 7431 7432 ([] : List Trained)), (7431, tFTrainedBase ([] : List Trained)), (7432, tFTrainedFeats ([] : List Trained))]) rfl (⟨.inl rfl, .inl rfl, .inl rfl, trivial⟩) (⟨.inr ⟨(by first | rfl | (simp [valOf]; done) | (simp [valOf]; first | omega | (rw [hst]; exact rfl) | (show Value.int .i64 _ = Value.int .i64 _; rw [hsA]; done) | (show Value.int .i64 _ = Value.int .i64 _; rw [hsA]; refine congrArg (Value.int .i64) ?_; omega) | (simp [hst]))), ⟨rfl, rfl⟩⟩, .inr ⟨rfl, rfl, fun i hi => absurd hi (Nat.not_lt_zero _)⟩, .inr ⟨rfl, rfl, fun p hp => absurd hp (Nat.not_lt_zero _)⟩, .inr ⟨rfl, rfl, fun p hp => absurd hp (Nat.not_lt_zero _)⟩, trivial⟩) ?_
       refine xe_end ([] : List Trained) (show (([] : List Trained) = (lsR w label sample share).1.Trained) ∧ (True) from ⟨(by first | (rw [hst]; done) | (rw [hst]; rfl) | (rw [hsT, hts, lrnP_neg (by omega)]; subst_vars; rfl) | (rw [hsT, hts, lrnP_pos (by omega)])), trivial⟩) (⟨.inl rfl, .inl rfl, .inl rfl, trivial⟩) (.tup [.agg [I ((lsR w label sample share).1.Band), .arr 7421], I 0, I 2]) (by kernel_rfl) (.inr ⟨⟨rfl, ⟨rfl, rfl⟩⟩, ⟨(by first | rfl | (simp [valOf]; done) | (simp [valOf]; first | omega | (rw [hst]; exact rfl) | (show Value.int .i64 _ = Value.int .i64 _; rw [hsA]; done) | (show Value.int .i64 _ = Value.int .i64 _; rw [hsA]; refine congrArg (Value.int .i64) ?_; omega) | (simp [hst]))), ⟨(by first | rfl | (simp [valOf]; done) | (simp [valOf]; first | omega | (rw [hst]; exact rfl) | (show Value.int .i64 _ = Value.int .i64 _; rw [hsA]; done) | (show Value.int .i64 _ = Value.int .i64 _; rw [hsA]; refine congrArg (Value.int .i64) ?_; omega) | (simp [hst]))), rfl⟩⟩⟩) (fun h => by cases h) (fun h => by cases h)
      have hst := lsR_7 (w := w) (label := label) (s := sample) (share := share) ⟨hwk, oks⟩ (by rw [h3]; decide)
      refine x_r [(1, .call [(true, .any)] true (Bv false))] [1, 2, 3, 4, 8, 25] [4, 8] [Sv label, slFeat false sample, I share, .ref 4 0, .ref 8 0, Bv true] [some (bxWriter w), some (.box [I 0, nilA])] [Con Tryz.prog 32 [Sv label] true (Bv false) ∧ True] ⟨⟨(con_bool h3 (implIsLabel_ok label okz)), trivial⟩, trivial⟩ ?_
      refine xe_then ?_
      refine x_true rfl ?_
      refine xR [] [8, 9, 10] [8] [.ref 8 0, I 0, I 7] [some (.box [I 0, nilA])] [] trivial ?_
      refine x_ret ?_
      refine xe_ret_block (xe_ret_then ?_)
      refine xe_nilC 8 1 7421 4 (fun _ => []) rfl (by kernel_rfl) ?_
      refine xe_fam 7431 3 (fun _ => 0) (fun _ _ => []) (by kernel_rfl) ?_
      refine xe_fam 7432 3 (fun _ => 0) (fun _ _ => []) (by kernel_rfl) ?_
      refine xe_weak [] (T := [(8, .ref 8 0), (9, I 0), (10, I 7)]) (O := [(8, .box [I ((lsR w label sample share).1.Band), .arr 7421]), (7421, tOTrained 7431 7432 ([] : List Trained)), (7431, tFTrainedBase ([] : List Trained)), (7432, tFTrainedFeats ([] : List Trained))]) rfl (⟨.inl rfl, .inl rfl, .inl rfl, trivial⟩) (⟨.inr ⟨(by first | rfl | (simp [valOf]; done) | (simp [valOf]; first | omega | (rw [hst]; exact rfl) | (show Value.int .i64 _ = Value.int .i64 _; rw [hsA]; done) | (show Value.int .i64 _ = Value.int .i64 _; rw [hsA]; refine congrArg (Value.int .i64) ?_; omega) | (simp [hst]))), ⟨rfl, rfl⟩⟩, .inr ⟨rfl, rfl, fun i hi => absurd hi (Nat.not_lt_zero _)⟩, .inr ⟨rfl, rfl, fun p hp => absurd hp (Nat.not_lt_zero _)⟩, .inr ⟨rfl, rfl, fun p hp => absurd hp (Nat.not_lt_zero _)⟩, trivial⟩) ?_
      refine xe_end ([] : List Trained) (show (([] : List Trained) = (lsR w label sample share).1.Trained) ∧ (True) from ⟨(by first | (rw [hst]; done) | (rw [hst]; rfl) | (rw [hsT, hts, lrnP_neg (by omega)]; subst_vars; rfl) | (rw [hsT, hts, lrnP_pos (by omega)])), trivial⟩) (⟨.inl rfl, .inl rfl, .inl rfl, trivial⟩) (.tup [.agg [I ((lsR w label sample share).1.Band), .arr 7421], I 0, I 7]) (by kernel_rfl) (.inr ⟨⟨rfl, ⟨rfl, rfl⟩⟩, ⟨(by first | rfl | (simp [valOf]; done) | (simp [valOf]; first | omega | (rw [hst]; exact rfl) | (show Value.int .i64 _ = Value.int .i64 _; rw [hsA]; done) | (show Value.int .i64 _ = Value.int .i64 _; rw [hsA]; refine congrArg (Value.int .i64) ?_; omega) | (simp [hst]))), ⟨(by first | rfl | (simp [valOf]; done) | (simp [valOf]; first | omega | (rw [hst]; exact rfl) | (show Value.int .i64 _ = Value.int .i64 _; rw [hsA]; done) | (show Value.int .i64 _ = Value.int .i64 _; rw [hsA]; refine congrArg (Value.int .i64) ?_; omega) | (simp [hst]))), rfl⟩⟩⟩) (fun h => by cases h) (fun h => by cases h)
     have hst := lsR_1 (w := w) (label := label) (s := sample) (share := share) (fun q => by rw [h2] at q; exact absurd q.2 (by decide))
     refine x_r [(1, .call [(true, .any)] true (Bv true)), (5, .call [(true, .any)] true (Bv false))] [1, 2, 3, 4, 8, 15] [4, 8] [Sv label, slFeat false sample, I share, .ref 4 0, .ref 8 0, Bv true] [some (bxWriter w), some (.box [I 0, nilA])] [Con Tryz.prog 30 [agWriter w] true (Bv true) ∧ True, Con Tryz.prog 31 [slFeat false sample] true (Bv false) ∧ True] ⟨⟨(con_bool h1 (ValidWriter_ok w ok)), trivial⟩, ⟨(con_bool h2 (ValidSeq_ok sample)), trivial⟩, trivial⟩ ?_
     refine xe_then ?_
     refine x_true rfl ?_
     refine xR [] [8, 9, 10] [8] [.ref 8 0, I 0, I 1] [some (.box [I 0, nilA])] [] trivial ?_
     refine x_ret ?_
     refine xe_ret_block (xe_ret_then ?_)
     refine xe_nilC 8 1 7421 4 (fun _ => []) rfl (by kernel_rfl) ?_
     refine xe_fam 7431 3 (fun _ => 0) (fun _ _ => []) (by kernel_rfl) ?_
     refine xe_fam 7432 3 (fun _ => 0) (fun _ _ => []) (by kernel_rfl) ?_
     refine xe_weak [] (T := [(8, .ref 8 0), (9, I 0), (10, I 1)]) (O := [(8, .box [I ((lsR w label sample share).1.Band), .arr 7421]), (7421, tOTrained 7431 7432 ([] : List Trained)), (7431, tFTrainedBase ([] : List Trained)), (7432, tFTrainedFeats ([] : List Trained))]) rfl (⟨.inl rfl, .inl rfl, .inl rfl, trivial⟩) (⟨.inr ⟨(by first | rfl | (simp [valOf]; done) | (simp [valOf]; first | omega | (rw [hst]; exact rfl) | (show Value.int .i64 _ = Value.int .i64 _; rw [hsA]; done) | (show Value.int .i64 _ = Value.int .i64 _; rw [hsA]; refine congrArg (Value.int .i64) ?_; omega) | (simp [hst]))), ⟨rfl, rfl⟩⟩, .inr ⟨rfl, rfl, fun i hi => absurd hi (Nat.not_lt_zero _)⟩, .inr ⟨rfl, rfl, fun p hp => absurd hp (Nat.not_lt_zero _)⟩, .inr ⟨rfl, rfl, fun p hp => absurd hp (Nat.not_lt_zero _)⟩, trivial⟩) ?_
     refine xe_end ([] : List Trained) (show (([] : List Trained) = (lsR w label sample share).1.Trained) ∧ (True) from ⟨(by first | (rw [hst]; done) | (rw [hst]; rfl) | (rw [hsT, hts, lrnP_neg (by omega)]; subst_vars; rfl) | (rw [hsT, hts, lrnP_pos (by omega)])), trivial⟩) (⟨.inl rfl, .inl rfl, .inl rfl, trivial⟩) (.tup [.agg [I ((lsR w label sample share).1.Band), .arr 7421], I 0, I 1]) (by kernel_rfl) (.inr ⟨⟨rfl, ⟨rfl, rfl⟩⟩, ⟨(by first | rfl | (simp [valOf]; done) | (simp [valOf]; first | omega | (rw [hst]; exact rfl) | (show Value.int .i64 _ = Value.int .i64 _; rw [hsA]; done) | (show Value.int .i64 _ = Value.int .i64 _; rw [hsA]; refine congrArg (Value.int .i64) ?_; omega) | (simp [hst]))), ⟨(by first | rfl | (simp [valOf]; done) | (simp [valOf]; first | omega | (rw [hst]; exact rfl) | (show Value.int .i64 _ = Value.int .i64 _; rw [hsA]; done) | (show Value.int .i64 _ = Value.int .i64 _; rw [hsA]; refine congrArg (Value.int .i64) ?_; omega) | (simp [hst]))), rfl⟩⟩⟩) (fun h => by cases h) (fun h => by cases h)
    have hst := lsR_1 (w := w) (label := label) (s := sample) (share := share) (fun q => by rw [h1] at q; exact absurd q.1 (by decide))
    refine x_r [(1, .call [(true, .any)] true (Bv false))] [1, 2, 3, 4, 8, 15] [4, 8] [Sv label, slFeat false sample, I share, .ref 4 0, .ref 8 0, Bv true] [some (bxWriter w), some (.box [I 0, nilA])] [Con Tryz.prog 30 [agWriter w] true (Bv false) ∧ True] ⟨⟨(con_bool h1 (ValidWriter_ok w ok)), trivial⟩, trivial⟩ ?_
    refine xe_then ?_
    refine x_true rfl ?_
    refine xR [] [8, 9, 10] [8] [.ref 8 0, I 0, I 1] [some (.box [I 0, nilA])] [] trivial ?_
    refine x_ret ?_
    refine xe_ret_block (xe_ret_then ?_)
    refine xe_nilC 8 1 7421 4 (fun _ => []) rfl (by kernel_rfl) ?_
    refine xe_fam 7431 3 (fun _ => 0) (fun _ _ => []) (by kernel_rfl) ?_
    refine xe_fam 7432 3 (fun _ => 0) (fun _ _ => []) (by kernel_rfl) ?_
    refine xe_weak [] (T := [(8, .ref 8 0), (9, I 0), (10, I 1)]) (O := [(8, .box [I ((lsR w label sample share).1.Band), .arr 7421]), (7421, tOTrained 7431 7432 ([] : List Trained)), (7431, tFTrainedBase ([] : List Trained)), (7432, tFTrainedFeats ([] : List Trained))]) rfl (⟨.inl rfl, .inl rfl, .inl rfl, trivial⟩) (⟨.inr ⟨(by first | rfl | (simp [valOf]; done) | (simp [valOf]; first | omega | (rw [hst]; exact rfl) | (show Value.int .i64 _ = Value.int .i64 _; rw [hsA]; done) | (show Value.int .i64 _ = Value.int .i64 _; rw [hsA]; refine congrArg (Value.int .i64) ?_; omega) | (simp [hst]))), ⟨rfl, rfl⟩⟩, .inr ⟨rfl, rfl, fun i hi => absurd hi (Nat.not_lt_zero _)⟩, .inr ⟨rfl, rfl, fun p hp => absurd hp (Nat.not_lt_zero _)⟩, .inr ⟨rfl, rfl, fun p hp => absurd hp (Nat.not_lt_zero _)⟩, trivial⟩) ?_
    refine xe_end ([] : List Trained) (show (([] : List Trained) = (lsR w label sample share).1.Trained) ∧ (True) from ⟨(by first | (rw [hst]; done) | (rw [hst]; rfl) | (rw [hsT, hts, lrnP_neg (by omega)]; subst_vars; rfl) | (rw [hsT, hts, lrnP_pos (by omega)])), trivial⟩) (⟨.inl rfl, .inl rfl, .inl rfl, trivial⟩) (.tup [.agg [I ((lsR w label sample share).1.Band), .arr 7421], I 0, I 1]) (by kernel_rfl) (.inr ⟨⟨rfl, ⟨rfl, rfl⟩⟩, ⟨(by first | rfl | (simp [valOf]; done) | (simp [valOf]; first | omega | (rw [hst]; exact rfl) | (show Value.int .i64 _ = Value.int .i64 _; rw [hsA]; done) | (show Value.int .i64 _ = Value.int .i64 _; rw [hsA]; refine congrArg (Value.int .i64) ?_; omega) | (simp [hst]))), ⟨(by first | rfl | (simp [valOf]; done) | (simp [valOf]; first | omega | (rw [hst]; exact rfl) | (show Value.int .i64 _ = Value.int .i64 _; rw [hsA]; done) | (show Value.int .i64 _ = Value.int .i64 _; rw [hsA]; refine congrArg (Value.int .i64) ?_; omega) | (simp [hst]))), rfl⟩⟩⟩) (fun h => by cases h) (fun h => by cases h)
  obtain ⟨ts, ⟨hh0, _⟩, hc⟩ := hh
  exact ⟨ts, hh0, hc⟩


-- laws.eqFeat
theorem eqFeat_ok (a : Feat) (b : Feat) : Con Tryz.prog 56 [agFeat a, agFeat b] true (Bv (same a b)) := by
  refine fn_ok (fn := Tryz.f56) (nt := 20) Tryz.func56 rfl rfl rfl rfl (by simp [taggedL, tagged]) fun B hB => ?_
  refine aR [(0, .new 2), (1, .new 3)] [2, 3] [2, 3] [.ref 2 0, .ref 3 0] [some (bxFeat a), some (bxFeat b)] [] hB trivial ?_
  refine aw_seq ?_
  refine aw_seq ?_
  by_cases h1 : a.X = b.X
  ·refine aw_r [(4, .dec false)] [2, 3, 9] [2, 3] [.ref 2 0, .ref 3 0, Bv false] [some (bxFeat a), some (bxFeat b)] [¬ (a.X ≠ b.X)] hB ⟨(fun hq => hq h1), trivial⟩ ?_
   refine ae_then ?_
   refine aw_false rfl ?_
   refine aw_skip ?_
   refine ae_then ?_
   refine aw_seq ?_
   refine aw_seq ?_
   by_cases h2 : a.Y = b.Y
   ·refine aw_r [(4, .dec false)] [2, 3, 14] [2, 3] [.ref 2 0, .ref 3 0, Bv false] [some (bxFeat a), some (bxFeat b)] [¬ (a.Y ≠ b.Y)] hB ⟨(fun hq => hq h2), trivial⟩ ?_
    refine ae_then ?_
    refine aw_false rfl ?_
    refine aw_skip ?_
    refine ae_then ?_
    refine aw_seq ?_
    refine aw_seq ?_
    by_cases h3 : a.D = b.D
    ·refine aw_r [(4, .dec false)] [19] [] [Bv false] [] [¬ (a.D ≠ b.D)] hB ⟨(fun hq => hq h3), trivial⟩ ?_
     refine ae_then ?_
     refine aw_false rfl ?_
     refine aw_skip ?_
     refine ae_then ?_
     refine aR [] [4] [] [Bv true] [] [] hB trivial ?_
     refine aw_ret ?_
     refine ae_ret hB (Bv true) (by kernel_rfl) (.inl (by first | (cases a; cases b; simp_all [same]; done) | (cases a; cases b; simp_all [same]; omega))) rfl (fun _ => trivial)
    refine aw_r [(4, .dec true)] [19] [] [Bv true] [] [a.D ≠ b.D] hB ⟨h3, trivial⟩ ?_
    refine ae_then ?_
    refine aw_true rfl ?_
    refine aR [] [4] [] [Bv false] [] [] hB trivial ?_
    refine aw_ret ?_
    refine ae_ret_then ?_
    refine ae_ret hB (Bv false) (by kernel_rfl) (.inl (by first | (cases a; cases b; simp_all [same]; done) | (cases a; cases b; simp_all [same]; omega))) rfl (fun _ => trivial)
   refine aw_r [(4, .dec true)] [2, 3, 14] [2, 3] [.ref 2 0, .ref 3 0, Bv true] [some (bxFeat a), some (bxFeat b)] [a.Y ≠ b.Y] hB ⟨h2, trivial⟩ ?_
   refine ae_then ?_
   refine aw_true rfl ?_
   refine aR [] [4] [] [Bv false] [] [] hB trivial ?_
   refine aw_ret ?_
   refine ae_ret_then ?_
   refine ae_ret hB (Bv false) (by kernel_rfl) (.inl (by first | (cases a; cases b; simp_all [same]; done) | (cases a; cases b; simp_all [same]; omega))) rfl (fun _ => trivial)
  refine aw_r [(4, .dec true)] [2, 3, 9] [2, 3] [.ref 2 0, .ref 3 0, Bv true] [some (bxFeat a), some (bxFeat b)] [a.X ≠ b.X] hB ⟨h1, trivial⟩ ?_
  refine ae_then ?_
  refine aw_true rfl ?_
  refine aR [] [4] [] [Bv false] [] [] hB trivial ?_
  refine aw_ret ?_
  refine ae_ret_then ?_
  refine ae_ret hB (Bv false) (by kernel_rfl) (.inl (by first | (cases a; cases b; simp_all [same]; done) | (cases a; cases b; simp_all [same]; omega))) rfl (fun _ => trivial)


-- laws.eqFeatS
theorem eqFeatS_ok (a : List Feat) (b : List Feat) : Con Tryz.prog 22 [slFeat false a, slFeat false b] true (Bv (same a b)) := by
  refine fn_ok (fn := Tryz.f22) (nt := 27) Tryz.func22 rfl rfl rfl rfl (by simp [taggedL, tagged, tagFeat]) fun B hB => ?_
  refine aw_lens (x := slFeat false a) 0 rfl (fun len_a => ?_)
  simp [LenOK, LenL, cFeat, fFeat, slFeat] at len_a
  refine aw_lens (x := slFeat false b) 1 rfl (fun len_b => ?_)
  simp [LenOK, LenL, cFeat, fFeat, slFeat] at len_b
  refine aR [] [0, 1] [] [slFeat false a, slFeat false b] [] [] hB trivial ?_
  refine aw_seq ?_
  refine aw_seq ?_
  by_cases h1 : (a.length : Int) = (b.length : Int)
  ·refine aw_r [(4, .dec false)] [0, 1, 10] [] [slFeat false a, slFeat false b, Bv false] [] [¬ ((a.length : Int) ≠ (b.length : Int))] hB ⟨(fun hq => hq h1), trivial⟩ ?_
   refine ae_then ?_
   refine aw_false rfl ?_
   refine aw_skip ?_
   refine ae_then ?_
   refine aw_seq ?_
   refine aR [] [0, 1, 5] [] [slFeat false a, slFeat false b, I 0] [] [] hB trivial ?_
   refine aw_block ?_
   refine aw_loop (fun gn gσ => ∃ (i : Int), gn = ((a.length : Int) - i).toNat ∧ (0 ≤ i ∧ i ≤ (a.length : Int)) ∧ (∀ j : Nat, (j : Int) < i → at_ a j = at_ b j) ∧ gσ = mkS [(0, slFeat false a), (1, slFeat false b), (5, I i)] []) (((a.length : Int) - 0).toNat) ⟨0, rfl, (by omega), (by intro j hj; omega), rfl⟩ (fun gn gσ hI => ?_)
   obtain ⟨i, rfl, hi0, he0, rfl⟩ := hI
   refine aw_seq ?_
   refine aw_seq ?_
   by_cases h2 : i < (a.length : Int)
   ·have hi : i.toNat < a.length := by omega
    have hib : i.toNat < b.length := by omega
    refine aw_r [(3, .dec true)] [0, 1, 5, 14] [] [slFeat false a, slFeat false b, I i, Bv true] [] [i < (a.length : Int)] hB ⟨h2, trivial⟩ ?_
    refine ae_then ?_
    refine aw_true rfl ?_
    refine aw_skip ?_
    refine ae_then ?_
    refine aw_seq ?_
    refine aw_block ?_
    refine aw_seq ?_
    rcases Bool.eq_false_or_eq_true (same (at_ a i.toNat) (at_ b i.toNat)) with h3 | h3
    ·have HEQ := h3
     refine aw_r [(8, .call [(true, .any), (true, .any)] true (Bv true))] [0, 1, 5, 26] [] [slFeat false a, slFeat false b, I i, Bv false] [] [(0 : Int) ≤ i ∧ i < (a.length : Int), (0 : Int) ≤ i ∧ i < (b.length : Int), Con Tryz.prog 56 [agFeat (at_ a i.toNat), agFeat (at_ b i.toNat)] true (Bv true) ∧ True] hB ⟨⟨(by omega), (by omega)⟩, ⟨(by omega), (by omega)⟩, ⟨(con_bool h3 (eqFeat_ok (at_ a i.toNat) (at_ b i.toNat))), trivial⟩, trivial⟩ ?_
     refine ae_then ?_
     refine aw_false rfl ?_
     refine aw_skip ?_
     refine ae_block 1 ?_
     refine ae_then ?_
     refine aw_r [] [0, 1, 5] [] [slFeat false a, slFeat false b, I (i + 1)] [] [inR .i64 (i + 1)] hB ⟨(inR_i64 (by omega) (by omega)), trivial⟩ ?_
     exact ae_again _ (by omega) ⟨(i + 1), rfl, (by omega), (by intro j hj; by_cases ej : j = i.toNat; (subst ej; simpa [same] using HEQ); exact he0 j (by omega)), rfl⟩
    refine aw_r [(8, .call [(true, .any), (true, .any)] true (Bv false))] [0, 1, 5, 26] [] [slFeat false a, slFeat false b, I i, Bv true] [] [(0 : Int) ≤ i ∧ i < (a.length : Int), (0 : Int) ≤ i ∧ i < (b.length : Int), Con Tryz.prog 56 [agFeat (at_ a i.toNat), agFeat (at_ b i.toNat)] true (Bv false) ∧ True] hB ⟨⟨(by omega), (by omega)⟩, ⟨(by omega), (by omega)⟩, ⟨(con_bool h3 (eqFeat_ok (at_ a i.toNat) (at_ b i.toNat))), trivial⟩, trivial⟩ ?_
    refine ae_then ?_
    refine aw_true rfl ?_
    refine aR [] [4] [] [Bv false] [] [] hB trivial ?_
    refine aw_ret ?_
    refine ae_ret_block (ae_ret_then (ae_ret_then (ae_ret_block (ae_ret_then ?_))))
    refine ae_ret hB (Bv false) (by kernel_rfl) (.inl (by first | (refine congrArg Bv (Eq.symm (decide_eq_false ?_)); intro e; subst e; simp_all [same]; done) | (exact congrArg Bv (Eq.symm (decide_eq_true hfin))))) rfl (fun _ => trivial)
   have hfin : a = b := ext_at (by omega) (fun j hj => he0 j (by omega))
   refine aw_r [(3, .dec false)] [0, 1, 5, 14] [] [slFeat false a, slFeat false b, I i, Bv false] [] [¬ (i < (a.length : Int))] hB ⟨h2, trivial⟩ ?_
   refine ae_then ?_
   refine aw_false rfl ?_
   refine aw_exit ?_
   refine ae_exit_then ?_
   refine ae_exit_then ?_
   refine ae_exit_same ?_
   refine ae_then ?_
   refine aR [] [4] [] [Bv true] [] [] hB trivial ?_
   refine aw_ret ?_
   refine ae_ret hB (Bv true) (by kernel_rfl) (.inl (by first | (refine congrArg Bv (Eq.symm (decide_eq_false ?_)); intro e; subst e; simp_all [same]; done) | (exact congrArg Bv (Eq.symm (decide_eq_true hfin))))) rfl (fun _ => trivial)
  refine aw_r [(4, .dec true)] [0, 1, 10] [] [slFeat false a, slFeat false b, Bv true] [] [(a.length : Int) ≠ (b.length : Int)] hB ⟨h1, trivial⟩ ?_
  refine ae_then ?_
  refine aw_true rfl ?_
  refine aR [] [4] [] [Bv false] [] [] hB trivial ?_
  refine aw_ret ?_
  refine ae_ret_then ?_
  refine ae_ret hB (Bv false) (by kernel_rfl) (.inl (by first | (refine congrArg Bv (Eq.symm (decide_eq_false ?_)); intro e; subst e; simp_all [same]; done) | (exact congrArg Bv (Eq.symm (decide_eq_true hfin))))) rfl (fun _ => trivial)


-- laws.eqTrained
theorem eqTrained_ok (a : Trained) (b : Trained) : Con Tryz.prog 91 [agTrained a, agTrained b] true (Bv (same a b)) := by
  refine fn_ok (fn := Tryz.f91) (nt := 27) Tryz.func91 rfl rfl rfl rfl (by simp [taggedL, tagged, tagFeat]) fun B hB => ?_
  refine aw_lens (x := agTrained a) 0 rfl (fun len_a => ?_)
  simp [LenOK, LenL, cFeat, fFeat, slFeat] at len_a
  refine aw_lens (x := agTrained b) 1 rfl (fun len_b => ?_)
  simp [LenOK, LenL, cFeat, fFeat, slFeat] at len_b
  refine aR [(0, .new 2), (1, .new 3)] [2, 3] [2, 3] [.ref 2 0, .ref 3 0] [some (bxTrained a), some (bxTrained b)] [] hB trivial ?_
  refine aw_seq ?_
  refine aw_seq ?_
  by_cases h1 : a.Label = b.Label
  ·refine aw_r [(4, .dec false)] [2, 3, 9] [2, 3] [.ref 2 0, .ref 3 0, Bv false] [some (bxTrained a), some (bxTrained b)] [¬ (a.Label ≠ b.Label)] hB ⟨(fun hq => hq h1), trivial⟩ ?_
   refine ae_then ?_
   refine aw_false rfl ?_
   refine aw_skip ?_
   refine ae_then ?_
   refine aw_seq ?_
   refine aw_seq ?_
   rcases Bool.eq_false_or_eq_true (same a.Base b.Base) with h2 | h2
   ·refine aw_r [(4, .call [(true, .any), (true, .any)] true (Bv true))] [2, 3, 15] [2, 3] [.ref 2 0, .ref 3 0, Bv false] [some (bxTrained a), some (bxTrained b)] [Con Tryz.prog 22 [slFeat false a.Base, slFeat false b.Base] true (Bv true) ∧ True] hB ⟨⟨(con_bool h2 (eqFeatS_ok a.Base b.Base)), trivial⟩, trivial⟩ ?_
    refine ae_then ?_
    refine aw_false rfl ?_
    refine aw_skip ?_
    refine ae_then ?_
    refine aw_seq ?_
    refine aw_seq ?_
    rcases Bool.eq_false_or_eq_true (same a.Feats b.Feats) with h3 | h3
    ·refine aw_r [(4, .call [(true, .any), (true, .any)] true (Bv true))] [2, 3, 21] [2, 3] [.ref 2 0, .ref 3 0, Bv false] [some (bxTrained a), some (bxTrained b)] [Con Tryz.prog 22 [slFeat false a.Feats, slFeat false b.Feats] true (Bv true) ∧ True] hB ⟨⟨(con_bool h3 (eqFeatS_ok a.Feats b.Feats)), trivial⟩, trivial⟩ ?_
     refine ae_then ?_
     refine aw_false rfl ?_
     refine aw_skip ?_
     refine ae_then ?_
     refine aw_seq ?_
     refine aw_seq ?_
     by_cases h4 : a.Count = b.Count
     ·refine aw_r [(4, .dec false)] [26] [] [Bv false] [] [¬ (a.Count ≠ b.Count)] hB ⟨(fun hq => hq h4), trivial⟩ ?_
      refine ae_then ?_
      refine aw_false rfl ?_
      refine aw_skip ?_
      refine ae_then ?_
      refine aR [] [4] [] [Bv true] [] [] hB trivial ?_
      refine aw_ret ?_
      refine ae_ret hB (Bv true) (by kernel_rfl) (.inl (by first | (cases a; cases b; simp_all [same]; done) | (cases a; cases b; simp_all [same]; omega))) rfl (fun _ => trivial)
     refine aw_r [(4, .dec true)] [26] [] [Bv true] [] [a.Count ≠ b.Count] hB ⟨h4, trivial⟩ ?_
     refine ae_then ?_
     refine aw_true rfl ?_
     refine aR [] [4] [] [Bv false] [] [] hB trivial ?_
     refine aw_ret ?_
     refine ae_ret_then ?_
     refine ae_ret hB (Bv false) (by kernel_rfl) (.inl (by first | (cases a; cases b; simp_all [same]; done) | (cases a; cases b; simp_all [same]; omega))) rfl (fun _ => trivial)
    refine aw_r [(4, .call [(true, .any), (true, .any)] true (Bv false))] [2, 3, 21] [2, 3] [.ref 2 0, .ref 3 0, Bv true] [some (bxTrained a), some (bxTrained b)] [Con Tryz.prog 22 [slFeat false a.Feats, slFeat false b.Feats] true (Bv false) ∧ True] hB ⟨⟨(con_bool h3 (eqFeatS_ok a.Feats b.Feats)), trivial⟩, trivial⟩ ?_
    refine ae_then ?_
    refine aw_true rfl ?_
    refine aR [] [4] [] [Bv false] [] [] hB trivial ?_
    refine aw_ret ?_
    refine ae_ret_then ?_
    refine ae_ret hB (Bv false) (by kernel_rfl) (.inl (by first | (cases a; cases b; simp_all [same]; done) | (cases a; cases b; simp_all [same]; omega))) rfl (fun _ => trivial)
   refine aw_r [(4, .call [(true, .any), (true, .any)] true (Bv false))] [2, 3, 15] [2, 3] [.ref 2 0, .ref 3 0, Bv true] [some (bxTrained a), some (bxTrained b)] [Con Tryz.prog 22 [slFeat false a.Base, slFeat false b.Base] true (Bv false) ∧ True] hB ⟨⟨(con_bool h2 (eqFeatS_ok a.Base b.Base)), trivial⟩, trivial⟩ ?_
   refine ae_then ?_
   refine aw_true rfl ?_
   refine aR [] [4] [] [Bv false] [] [] hB trivial ?_
   refine aw_ret ?_
   refine ae_ret_then ?_
   refine ae_ret hB (Bv false) (by kernel_rfl) (.inl (by first | (cases a; cases b; simp_all [same]; done) | (cases a; cases b; simp_all [same]; omega))) rfl (fun _ => trivial)
  refine aw_r [(4, .dec true)] [2, 3, 9] [2, 3] [.ref 2 0, .ref 3 0, Bv true] [some (bxTrained a), some (bxTrained b)] [a.Label ≠ b.Label] hB ⟨h1, trivial⟩ ?_
  refine ae_then ?_
  refine aw_true rfl ?_
  refine aR [] [4] [] [Bv false] [] [] hB trivial ?_
  refine aw_ret ?_
  refine ae_ret_then ?_
  refine ae_ret hB (Bv false) (by kernel_rfl) (.inl (by first | (cases a; cases b; simp_all [same]; done) | (cases a; cases b; simp_all [same]; omega))) rfl (fun _ => trivial)


-- laws.eqTrainedS
theorem eqTrainedS_ok (a : List Trained) (b : List Trained) : Con Tryz.prog 55 [slTrained false a, slTrained false b] true (Bv (same a b)) := by
  refine fn_ok (fn := Tryz.f55) (nt := 27) Tryz.func55 rfl rfl rfl rfl (by simp [taggedL, tagged, tagTrained]) fun B hB => ?_
  refine aw_lens (x := slTrained false a) 0 rfl (fun len_a => ?_)
  simp [LenOK, LenL, cFeat, cTrained, fFeat, fTrained, slFeat, slTrained] at len_a
  refine aw_lens (x := slTrained false b) 1 rfl (fun len_b => ?_)
  simp [LenOK, LenL, cFeat, cTrained, fFeat, fTrained, slFeat, slTrained] at len_b
  refine aR [] [0, 1] [] [slTrained false a, slTrained false b] [] [] hB trivial ?_
  refine aw_seq ?_
  refine aw_seq ?_
  by_cases h1 : (a.length : Int) = (b.length : Int)
  ·refine aw_r [(4, .dec false)] [0, 1, 10] [] [slTrained false a, slTrained false b, Bv false] [] [¬ ((a.length : Int) ≠ (b.length : Int))] hB ⟨(fun hq => hq h1), trivial⟩ ?_
   refine ae_then ?_
   refine aw_false rfl ?_
   refine aw_skip ?_
   refine ae_then ?_
   refine aw_seq ?_
   refine aR [] [0, 1, 5] [] [slTrained false a, slTrained false b, I 0] [] [] hB trivial ?_
   refine aw_block ?_
   refine aw_loop (fun gn gσ => ∃ (i : Int), gn = ((a.length : Int) - i).toNat ∧ (0 ≤ i ∧ i ≤ (a.length : Int)) ∧ (∀ j : Nat, (j : Int) < i → at_ a j = at_ b j) ∧ gσ = mkS [(0, slTrained false a), (1, slTrained false b), (5, I i)] []) (((a.length : Int) - 0).toNat) ⟨0, rfl, (by omega), (by intro j hj; omega), rfl⟩ (fun gn gσ hI => ?_)
   obtain ⟨i, rfl, hi0, he0, rfl⟩ := hI
   refine aw_seq ?_
   refine aw_seq ?_
   by_cases h2 : i < (a.length : Int)
   ·have hi : i.toNat < a.length := by omega
    have hib : i.toNat < b.length := by omega
    refine aw_r [(3, .dec true)] [0, 1, 5, 14] [] [slTrained false a, slTrained false b, I i, Bv true] [] [i < (a.length : Int)] hB ⟨h2, trivial⟩ ?_
    refine ae_then ?_
    refine aw_true rfl ?_
    refine aw_skip ?_
    refine ae_then ?_
    refine aw_seq ?_
    refine aw_block ?_
    refine aw_seq ?_
    rcases Bool.eq_false_or_eq_true (same (at_ a i.toNat) (at_ b i.toNat)) with h3 | h3
    ·have HEQ := h3
     refine aw_r [(8, .call [(true, .any), (true, .any)] true (Bv true))] [0, 1, 5, 26] [] [slTrained false a, slTrained false b, I i, Bv false] [] [(0 : Int) ≤ i ∧ i < (a.length : Int), (0 : Int) ≤ i ∧ i < (b.length : Int), Con Tryz.prog 91 [agTrained (at_ a i.toNat), agTrained (at_ b i.toNat)] true (Bv true) ∧ True] hB ⟨⟨(by omega), (by omega)⟩, ⟨(by omega), (by omega)⟩, ⟨(con_bool h3 (eqTrained_ok (at_ a i.toNat) (at_ b i.toNat))), trivial⟩, trivial⟩ ?_
     refine ae_then ?_
     refine aw_false rfl ?_
     refine aw_skip ?_
     refine ae_block 1 ?_
     refine ae_then ?_
     refine aw_r [] [0, 1, 5] [] [slTrained false a, slTrained false b, I (i + 1)] [] [inR .i64 (i + 1)] hB ⟨(inR_i64 (by omega) (by omega)), trivial⟩ ?_
     exact ae_again _ (by omega) ⟨(i + 1), rfl, (by omega), (by intro j hj; by_cases ej : j = i.toNat; (subst ej; simpa [same] using HEQ); exact he0 j (by omega)), rfl⟩
    refine aw_r [(8, .call [(true, .any), (true, .any)] true (Bv false))] [0, 1, 5, 26] [] [slTrained false a, slTrained false b, I i, Bv true] [] [(0 : Int) ≤ i ∧ i < (a.length : Int), (0 : Int) ≤ i ∧ i < (b.length : Int), Con Tryz.prog 91 [agTrained (at_ a i.toNat), agTrained (at_ b i.toNat)] true (Bv false) ∧ True] hB ⟨⟨(by omega), (by omega)⟩, ⟨(by omega), (by omega)⟩, ⟨(con_bool h3 (eqTrained_ok (at_ a i.toNat) (at_ b i.toNat))), trivial⟩, trivial⟩ ?_
    refine ae_then ?_
    refine aw_true rfl ?_
    refine aR [] [4] [] [Bv false] [] [] hB trivial ?_
    refine aw_ret ?_
    refine ae_ret_block (ae_ret_then (ae_ret_then (ae_ret_block (ae_ret_then ?_))))
    refine ae_ret hB (Bv false) (by kernel_rfl) (.inl (by first | (refine congrArg Bv (Eq.symm (decide_eq_false ?_)); intro e; subst e; simp_all [same]; done) | (exact congrArg Bv (Eq.symm (decide_eq_true hfin))))) rfl (fun _ => trivial)
   have hfin : a = b := ext_at (by omega) (fun j hj => he0 j (by omega))
   refine aw_r [(3, .dec false)] [0, 1, 5, 14] [] [slTrained false a, slTrained false b, I i, Bv false] [] [¬ (i < (a.length : Int))] hB ⟨h2, trivial⟩ ?_
   refine ae_then ?_
   refine aw_false rfl ?_
   refine aw_exit ?_
   refine ae_exit_then ?_
   refine ae_exit_then ?_
   refine ae_exit_same ?_
   refine ae_then ?_
   refine aR [] [4] [] [Bv true] [] [] hB trivial ?_
   refine aw_ret ?_
   refine ae_ret hB (Bv true) (by kernel_rfl) (.inl (by first | (refine congrArg Bv (Eq.symm (decide_eq_false ?_)); intro e; subst e; simp_all [same]; done) | (exact congrArg Bv (Eq.symm (decide_eq_true hfin))))) rfl (fun _ => trivial)
  refine aw_r [(4, .dec true)] [0, 1, 10] [] [slTrained false a, slTrained false b, Bv true] [] [(a.length : Int) ≠ (b.length : Int)] hB ⟨h1, trivial⟩ ?_
  refine ae_then ?_
  refine aw_true rfl ?_
  refine aR [] [4] [] [Bv false] [] [] hB trivial ?_
  refine aw_ret ?_
  refine ae_ret_then ?_
  refine ae_ret hB (Bv false) (by kernel_rfl) (.inl (by first | (refine congrArg Bv (Eq.symm (decide_eq_false ?_)); intro e; subst e; simp_all [same]; done) | (exact congrArg Bv (Eq.symm (decide_eq_true hfin))))) rfl (fun _ => trivial)


-- laws.eqWriter
theorem eqWriter_ok (a : Writer) (b : Writer) : Con Tryz.prog 21 [agWriter a, agWriter b] true (Bv (same a b)) := by
  refine fn_ok (fn := Tryz.f21) (nt := 16) Tryz.func21 rfl rfl rfl rfl (by simp [taggedL, tagged, tagTrained]) fun B hB => ?_
  refine aw_lens (x := agWriter a) 0 rfl (fun len_a => ?_)
  simp [LenOK, LenL, cFeat, cTrained, fFeat, fTrained, slFeat, slTrained] at len_a
  refine aw_lens (x := agWriter b) 1 rfl (fun len_b => ?_)
  simp [LenOK, LenL, cFeat, cTrained, fFeat, fTrained, slFeat, slTrained] at len_b
  refine aR [(0, .new 2), (1, .new 3)] [2, 3] [2, 3] [.ref 2 0, .ref 3 0] [some (bxWriter a), some (bxWriter b)] [] hB trivial ?_
  refine aw_seq ?_
  refine aw_seq ?_
  by_cases h1 : a.Band = b.Band
  ·refine aw_r [(4, .dec false)] [2, 3, 9] [2, 3] [.ref 2 0, .ref 3 0, Bv false] [some (bxWriter a), some (bxWriter b)] [¬ (a.Band ≠ b.Band)] hB ⟨(fun hq => hq h1), trivial⟩ ?_
   refine ae_then ?_
   refine aw_false rfl ?_
   refine aw_skip ?_
   refine ae_then ?_
   refine aw_seq ?_
   refine aw_seq ?_
   rcases Bool.eq_false_or_eq_true (same a.Trained b.Trained) with h2 | h2
   ·refine aw_r [(4, .call [(true, .any), (true, .any)] true (Bv true))] [15] [] [Bv false] [] [Con Tryz.prog 55 [slTrained false a.Trained, slTrained false b.Trained] true (Bv true) ∧ True] hB ⟨⟨(con_bool h2 (eqTrainedS_ok a.Trained b.Trained)), trivial⟩, trivial⟩ ?_
    refine ae_then ?_
    refine aw_false rfl ?_
    refine aw_skip ?_
    refine ae_then ?_
    refine aR [] [4] [] [Bv true] [] [] hB trivial ?_
    refine aw_ret ?_
    refine ae_ret hB (Bv true) (by kernel_rfl) (.inl (by first | (cases a; cases b; simp_all [same]; done) | (cases a; cases b; simp_all [same]; omega))) rfl (fun _ => trivial)
   refine aw_r [(4, .call [(true, .any), (true, .any)] true (Bv false))] [15] [] [Bv true] [] [Con Tryz.prog 55 [slTrained false a.Trained, slTrained false b.Trained] true (Bv false) ∧ True] hB ⟨⟨(con_bool h2 (eqTrainedS_ok a.Trained b.Trained)), trivial⟩, trivial⟩ ?_
   refine ae_then ?_
   refine aw_true rfl ?_
   refine aR [] [4] [] [Bv false] [] [] hB trivial ?_
   refine aw_ret ?_
   refine ae_ret_then ?_
   refine ae_ret hB (Bv false) (by kernel_rfl) (.inl (by first | (cases a; cases b; simp_all [same]; done) | (cases a; cases b; simp_all [same]; omega))) rfl (fun _ => trivial)
  refine aw_r [(4, .dec true)] [2, 3, 9] [2, 3] [.ref 2 0, .ref 3 0, Bv true] [some (bxWriter a), some (bxWriter b)] [a.Band ≠ b.Band] hB ⟨h1, trivial⟩ ?_
  refine ae_then ?_
  refine aw_true rfl ?_
  refine aR [] [4] [] [Bv false] [] [] hB trivial ?_
  refine aw_ret ?_
  refine ae_ret_then ?_
  refine ae_ret hB (Bv false) (by kernel_rfl) (.inl (by first | (cases a; cases b; simp_all [same]; done) | (cases a; cases b; simp_all [same]; omega))) rfl (fun _ => trivial)


-- laws.markText
theorem markText_ok (k : Int) (hk : 0 ≤ k ∧ k ≤ 1000000000) : Con Tryz.prog 92 [I k] true (Sv (mkTx k)) := by
  refine fn_ok (fn := Tryz.f92) (nt := 20) Tryz.func92 rfl rfl rfl rfl (by simp [taggedL, tagged]) fun B hB => ?_
  refine aR [] [0] [] [I k] [] [] hB trivial ?_
  refine aw_seq ?_
  refine aw_seq ?_
  by_cases h1 : k ≤ 0
  ·have e0 := mkTx_nn h1
   refine aw_r [(1, .dec true)] [0, 5] [] [I k, Bv true] [] [k ≤ 0] hB ⟨h1, trivial⟩ ?_
   refine ae_then ?_
   refine aw_true rfl ?_
   refine aR [] [2] [] [Sv (⟨#[109, 48]⟩ : ByteArray)] [] [] hB trivial ?_
   refine aw_ret ?_
   refine ae_ret_then ?_
   refine ae_ret hB (Sv (⟨#[109, 48]⟩ : ByteArray)) (by kernel_rfl) (.inl (by first | (rw [e0]; done) | (rw [e0, ← hm1, mkD_neg _ (by omega)]; done) | (rw [e0, ← hm1, mkD_neg _ (by omega)]; rfl))) rfl (fun _ => trivial)
  have e0 := mkTx_ps h1
  refine aw_r [(1, .dec false)] [0, 5] [] [I k, Bv false] [] [¬ (k ≤ 0)] hB ⟨h1, trivial⟩ ?_
  refine ae_then ?_
  refine aw_false rfl ?_
  refine aw_skip ?_
  refine ae_then ?_
  refine aR [] [0, 3] [] [I k, Sv (⟨#[]⟩ : ByteArray)] [] [] hB trivial ?_
  refine aw_seq ?_
  refine aw_block ?_
  refine aw_loop (fun gn gσ => ∃ (k' : Int) (out : ByteArray), gn = k'.toNat ∧ (0 ≤ k' ∧ k' ≤ 1000000000) ∧ ((out.size : Int) + k' ≤ k) ∧ (mkD k'.toNat k' out = mkD k.toNat k ⟨#[]⟩) ∧ gσ = mkS [(0, I k'), (3, Sv out)] []) (k.toNat) ⟨k, (⟨#[]⟩ : ByteArray), rfl, (by omega), (by first | omega | (show (0 : Int) + k ≤ k; omega)), (by rfl), rfl⟩ (fun gn gσ hI => ?_)
  obtain ⟨k', out, rfl, hk1, hs1, hm1, rfl⟩ := hI
  refine aw_seq ?_
  refine aw_seq ?_
  by_cases h2 : 0 < k'
  ·refine aw_r [(1, .dec true)] [0, 3, 7] [] [I k', Sv out, Bv true] [] [0 < k'] hB ⟨h2, trivial⟩ ?_
   refine ae_then ?_
   refine aw_true rfl ?_
   refine aw_skip ?_
   refine ae_then ?_
   refine aw_block ?_
   refine aR [(1, .nn), (4, .new 12), (5, .as (Sv (strB ([(48 + (k' % 10))]))))] [0, 3] [] [I k', Sv ((strB ([(48 + (k' % 10))])) ++ out)] [] [(0 : Int) ≤ k' ∧ (0 : Int) < 10, inR .i64 (48 + (k' % 10)), inR .u8 (48 + (k' % 10)), (strB ([(48 + (k' % 10))])).size = 1 ∧ ∀ i_, i_ < 1 → (litF [.val (.int .u8 (48 + (k' % 10)))] 1) i_ = byteF (strB ([(48 + (k' % 10))])) i_, (strB ([(48 + (k' % 10))])).size + out.size ≤ 9223372036854775807] hB ⟨⟨(by first | omega | (show (1 : Nat) + out.size ≤ 9223372036854775807; omega) | (simp only [ByteArray.size_append, strB_size, List.length_singleton]; omega)), (by first | omega | (show (1 : Nat) + out.size ≤ 9223372036854775807; omega) | (simp only [ByteArray.size_append, strB_size, List.length_singleton]; omega))⟩, (inR_i64 (by first | omega | (show (1 : Nat) + out.size ≤ 9223372036854775807; omega) | (simp only [ByteArray.size_append, strB_size, List.length_singleton]; omega)) (by first | omega | (show (1 : Nat) + out.size ≤ 9223372036854775807; omega) | (simp only [ByteArray.size_append, strB_size, List.length_singleton]; omega))), (inR_u8 (by first | omega | (show (1 : Nat) + out.size ≤ 9223372036854775807; omega) | (simp only [ByteArray.size_append, strB_size, List.length_singleton]; omega)) (by first | omega | (show (1 : Nat) + out.size ≤ 9223372036854775807; omega) | (simp only [ByteArray.size_append, strB_size, List.length_singleton]; omega))), (strB_ok' (fun x hx => by simp only [List.mem_singleton] at hx; omega) (by first | rfl | (simp; done) | (simp; omega) | omega) (fun i_ hi_ => .inl (match i_, hi_ with | 0, _ => rfl | (i + 1), h => absurd h (by simp)))), (by first | omega | (show (1 : Nat) + out.size ≤ 9223372036854775807; omega) | (simp only [ByteArray.size_append, strB_size, List.length_singleton]; omega)), trivial⟩ ?_
   refine aw_r [(1, .nn)] [0, 3] [] [I (k' / 10), Sv ((strB ([(48 + (k' % 10))])) ++ out)] [] [(0 : Int) ≤ k' ∧ (0 : Int) < 10 ∧ inR .i64 k'] hB ⟨⟨(by first | omega | (show (1 : Nat) + out.size ≤ 9223372036854775807; omega) | (simp only [ByteArray.size_append, strB_size, List.length_singleton]; omega)), (by first | omega | (show (1 : Nat) + out.size ≤ 9223372036854775807; omega) | (simp only [ByteArray.size_append, strB_size, List.length_singleton]; omega)), (inR_i64 (by first | omega | (show (1 : Nat) + out.size ≤ 9223372036854775807; omega) | (simp only [ByteArray.size_append, strB_size, List.length_singleton]; omega)) (by first | omega | (show (1 : Nat) + out.size ≤ 9223372036854775807; omega) | (simp only [ByteArray.size_append, strB_size, List.length_singleton]; omega)))⟩, trivial⟩ ?_
   refine ae_block 1 ?_
   exact ae_again _ (by omega) ⟨(k' / 10), ((strB ([(48 + (k' % 10))])) ++ out), rfl, (by omega), (by rw [ByteArray.size_append, strB_size]; simp; omega), (by rw [← hm1]; exact (mkD_step (by omega) out).symm), rfl⟩
  refine aw_r [(1, .dec false)] [0, 3, 7] [] [I k', Sv out, Bv false] [] [¬ (0 < k')] hB ⟨h2, trivial⟩ ?_
  refine ae_then ?_
  refine aw_false rfl ?_
  refine aw_exit ?_
  refine ae_exit_then ?_
  refine ae_exit_then ?_
  refine ae_exit_same ?_
  refine ae_then ?_
  refine aR [] [2] [] [Sv ((⟨#[109]⟩ : ByteArray) ++ out)] [] [(⟨#[109]⟩ : ByteArray).size + out.size ≤ 9223372036854775807] hB ⟨(by first | omega | (show (1 : Nat) + out.size ≤ 9223372036854775807; omega) | (simp only [ByteArray.size_append, strB_size, List.length_singleton]; omega)), trivial⟩ ?_
  refine aw_ret ?_
  refine ae_ret hB (Sv ((⟨#[109]⟩ : ByteArray) ++ out)) (by kernel_rfl) (.inl (by first | (rw [e0]; done) | (rw [e0, ← hm1, mkD_neg _ (by omega)]; done) | (rw [e0, ← hm1, mkD_neg _ (by omega)]; rfl))) rfl (fun _ => trivial)


-- laws.markFeatS
theorem markFeatS0_ok (al : List Feat) (k : Int) (hk : 0 ≤ k ∧ k ≤ 100000000 ∧ al.length ≤ 1048576) : ∃ (v : Int) (al' : List Feat), (v = k + 3 * (al.length : Int)) ∧ (al' = mkL k al.length) ∧ CallOK Tryz.prog 24 [.arr 7301, I k] (lookO [(7301, tAFeat al)]) true (I v) (lookO [(7301, tAFeat al')]) := by
  have hh : ∃ r : Int × (List Feat), ((r.1 = k + 3 * (al.length : Int)) ∧ (r.2 = mkL k al.length) ∧ (True)) ∧ CallOK Tryz.prog 24 [.arr 7301, I k] (lookO [(7301, tAFeat al)]) true (I r.1) (lookO [(7301, tAFeat r.2)]) := by
    refine fn_okX (Φ := fun r : Int × (List Feat) => (r.1 = k + 3 * (al.length : Int)) ∧ (r.2 = mkL k al.length) ∧ (True)) [(7301, tAFeat al)] (fun r => [(7301, tAFeat r.2)]) (fn := Tryz.f24) (nt := 34) Tryz.func24 rfl rfl (args := [.arr 7301, I k]) rfl (allcons (.inr trivial) (allcons (.inl ⟨rfl, trivial⟩) allnil)) (res := fun r => I r.1) ?_
    refine xR [] [0, 1] [7301] [.arr 7301, I k] [some (tAFeat al)] [] trivial ?_
    refine x_seq ?_
    refine xR [] [0, 1, 5] [7301] [.arr 7301, I k, I 0] [some (tAFeat al)] [] trivial ?_
    refine x_block ?_
    refine x_loop (X := Int × Int × (List Feat)) (fun x => mkS [(0, .arr 7301), (1, I x.1), (5, I x.2.1)] [(7301, tAFeat x.2.2)]) (fun x => (0 ≤ x.2.1 ∧ x.2.1 ≤ (al.length : Int)) ∧ (x.2.2.length = al.length) ∧ (x.1 = k + 3 * x.2.1) ∧ (∀ j : Nat, (j : Int) < x.2.1 → at_ x.2.2 j = ⟨k + 3 * (j : Int), k + 3 * (j : Int) + 1, k + 3 * (j : Int) + 2⟩) ∧ True) (fun x => ((al.length : Int) - x.2.1).toNat) (k, 0, al) rfl (show (0 ≤ (0 : Int) ∧ (0 : Int) ≤ (al.length : Int)) ∧ (al.length = al.length) ∧ (k = k + 3 * (0 : Int)) ∧ (∀ j : Nat, (j : Int) < (0 : Int) → at_ al j = ⟨k + 3 * (j : Int), k + 3 * (j : Int) + 1, k + 3 * (j : Int) + 2⟩) ∧ True from ⟨(by omega), (by rfl), (by omega), (by intro j hj; omega), trivial⟩) (fun x hI => ?_)
    obtain ⟨k', i, ys⟩ := x
    obtain ⟨hi0, hy0, hk1, hy1, _⟩ : (0 ≤ i ∧ i ≤ (al.length : Int)) ∧ (ys.length = al.length) ∧ (k' = k + 3 * i) ∧ (∀ j : Nat, (j : Int) < i → at_ ys j = ⟨k + 3 * (j : Int), k + 3 * (j : Int) + 1, k + 3 * (j : Int) + 2⟩) ∧ True := hI
    show XW _ _ _ _ (mkS [(0, .arr 7301), (1, I k'), (5, I i)] [(7301, tAFeat ys)]) _ _
    refine x_seq ?_
    refine x_seq ?_
    by_cases h1 : i < (ys.length : Int)
    ·have hi : i.toNat < al.length := by omega
     have hiy : i.toNat < ys.length := by omega
     refine x_r [(3, .dec true)] [0, 1, 5, 9] [7301] [.arr 7301, I k', I i, Bv true] [some (tAFeat ys)] [i < (ys.length : Int)] ⟨h1, trivial⟩ ?_
     refine xe_then ?_
     refine x_true rfl ?_
     refine x_skip ?_
     refine xe_then ?_
     refine x_seq ?_
     refine x_block ?_
     refine xR [] [0, 1, 5] [7301] [.arr 7301, I k', I i] [some (.arr 3 ys.length (fun q => bif Nat.beq q i.toNat then [I k', I ((at_ ys i.toNat).Y), I ((at_ ys i.toNat).D)] else (fFeat ys) q))] [(0 : Int) ≤ i ∧ i < (ys.length : Int), i.toNat < ys.length] ⟨⟨(by omega), (by omega)⟩, (by omega), trivial⟩ ?_
     refine x_seq ?_
     refine x_weak [] (T := [(0, .arr 7301), (1, I k'), (5, I i)]) (O := [(7301, tAFeat (ys.set i.toNat (Feat.mk k' ((at_ ys i.toNat).Y) ((at_ ys i.toNat).D))))]) rfl (⟨.inl rfl, .inl rfl, .inl rfl, trivial⟩) (⟨.inr ⟨rfl, (by first | rfl | (simp; done) | (simp; omega) | omega), fun i_ hi_ => .inl (upd_enc (enc := cFeat) rfl i_ hi_)⟩, trivial⟩) ?_
     refine x_r [] [0, 1, 5] [7301] [.arr 7301, I (k' + 1), I i] [some (tAFeat (ys.set i.toNat (Feat.mk k' ((at_ ys i.toNat).Y) ((at_ ys i.toNat).D))))] [inR .i64 (k' + 1)] ⟨(inR_i64 (by omega) (by omega)), trivial⟩ ?_
     refine xe_then ?_
     refine xR [] [0, 1, 5] [7301] [.arr 7301, I (k' + 1), I i] [some (.arr 3 ((ys.set i.toNat (Feat.mk k' ((at_ ys i.toNat).Y) ((at_ ys i.toNat).D))).length) (fun q => bif Nat.beq q i.toNat then [I ((at_ (ys.set i.toNat (Feat.mk k' ((at_ ys i.toNat).Y) ((at_ ys i.toNat).D))) i.toNat).X), I (k' + 1), I ((at_ (ys.set i.toNat (Feat.mk k' ((at_ ys i.toNat).Y) ((at_ ys i.toNat).D))) i.toNat).D)] else (fFeat (ys.set i.toNat (Feat.mk k' ((at_ ys i.toNat).Y) ((at_ ys i.toNat).D)))) q))] [(0 : Int) ≤ i ∧ i < (((ys.set i.toNat (Feat.mk k' ((at_ ys i.toNat).Y) ((at_ ys i.toNat).D))).length) : Int), i.toNat < (ys.set i.toNat (Feat.mk k' ((at_ ys i.toNat).Y) ((at_ ys i.toNat).D))).length] ⟨⟨(by (try simp only [List.length_set]); omega), (by (try simp only [List.length_set]); omega)⟩, (by (try simp only [List.length_set]); omega), trivial⟩ ?_
     refine x_seq ?_
     refine x_weak [] (T := [(0, .arr 7301), (1, I (k' + 1)), (5, I i)]) (O := [(7301, tAFeat ((ys.set i.toNat (Feat.mk k' ((at_ ys i.toNat).Y) ((at_ ys i.toNat).D))).set i.toNat (Feat.mk ((at_ (ys.set i.toNat (Feat.mk k' ((at_ ys i.toNat).Y) ((at_ ys i.toNat).D))) i.toNat).X) (k' + 1) ((at_ (ys.set i.toNat (Feat.mk k' ((at_ ys i.toNat).Y) ((at_ ys i.toNat).D))) i.toNat).D))))]) rfl (⟨.inl rfl, .inl rfl, .inl rfl, trivial⟩) (⟨.inr ⟨rfl, (by first | rfl | (simp; done) | (simp; omega) | omega), fun i_ hi_ => .inl (upd_enc (enc := cFeat) rfl i_ hi_)⟩, trivial⟩) ?_
     refine x_r [] [0, 1, 5] [7301] [.arr 7301, I ((k' + 1) + 1), I i] [some (tAFeat ((ys.set i.toNat (Feat.mk k' ((at_ ys i.toNat).Y) ((at_ ys i.toNat).D))).set i.toNat (Feat.mk ((at_ (ys.set i.toNat (Feat.mk k' ((at_ ys i.toNat).Y) ((at_ ys i.toNat).D))) i.toNat).X) (k' + 1) ((at_ (ys.set i.toNat (Feat.mk k' ((at_ ys i.toNat).Y) ((at_ ys i.toNat).D))) i.toNat).D))))] [inR .i64 ((k' + 1) + 1)] ⟨(inR_i64 (by omega) (by omega)), trivial⟩ ?_
     refine xe_then ?_
     refine xR [] [0, 1, 5] [7301] [.arr 7301, I ((k' + 1) + 1), I i] [some (.arr 3 (((ys.set i.toNat (Feat.mk k' ((at_ ys i.toNat).Y) ((at_ ys i.toNat).D))).set i.toNat (Feat.mk ((at_ (ys.set i.toNat (Feat.mk k' ((at_ ys i.toNat).Y) ((at_ ys i.toNat).D))) i.toNat).X) (k' + 1) ((at_ (ys.set i.toNat (Feat.mk k' ((at_ ys i.toNat).Y) ((at_ ys i.toNat).D))) i.toNat).D))).length) (fun q => bif Nat.beq q i.toNat then [I ((at_ ((ys.set i.toNat (Feat.mk k' ((at_ ys i.toNat).Y) ((at_ ys i.toNat).D))).set i.toNat (Feat.mk ((at_ (ys.set i.toNat (Feat.mk k' ((at_ ys i.toNat).Y) ((at_ ys i.toNat).D))) i.toNat).X) (k' + 1) ((at_ (ys.set i.toNat (Feat.mk k' ((at_ ys i.toNat).Y) ((at_ ys i.toNat).D))) i.toNat).D))) i.toNat).X), I ((at_ ((ys.set i.toNat (Feat.mk k' ((at_ ys i.toNat).Y) ((at_ ys i.toNat).D))).set i.toNat (Feat.mk ((at_ (ys.set i.toNat (Feat.mk k' ((at_ ys i.toNat).Y) ((at_ ys i.toNat).D))) i.toNat).X) (k' + 1) ((at_ (ys.set i.toNat (Feat.mk k' ((at_ ys i.toNat).Y) ((at_ ys i.toNat).D))) i.toNat).D))) i.toNat).Y), I ((k' + 1) + 1)] else (fFeat ((ys.set i.toNat (Feat.mk k' ((at_ ys i.toNat).Y) ((at_ ys i.toNat).D))).set i.toNat (Feat.mk ((at_ (ys.set i.toNat (Feat.mk k' ((at_ ys i.toNat).Y) ((at_ ys i.toNat).D))) i.toNat).X) (k' + 1) ((at_ (ys.set i.toNat (Feat.mk k' ((at_ ys i.toNat).Y) ((at_ ys i.toNat).D))) i.toNat).D)))) q))] [(0 : Int) ≤ i ∧ i < ((((ys.set i.toNat (Feat.mk k' ((at_ ys i.toNat).Y) ((at_ ys i.toNat).D))).set i.toNat (Feat.mk ((at_ (ys.set i.toNat (Feat.mk k' ((at_ ys i.toNat).Y) ((at_ ys i.toNat).D))) i.toNat).X) (k' + 1) ((at_ (ys.set i.toNat (Feat.mk k' ((at_ ys i.toNat).Y) ((at_ ys i.toNat).D))) i.toNat).D))).length) : Int), i.toNat < ((ys.set i.toNat (Feat.mk k' ((at_ ys i.toNat).Y) ((at_ ys i.toNat).D))).set i.toNat (Feat.mk ((at_ (ys.set i.toNat (Feat.mk k' ((at_ ys i.toNat).Y) ((at_ ys i.toNat).D))) i.toNat).X) (k' + 1) ((at_ (ys.set i.toNat (Feat.mk k' ((at_ ys i.toNat).Y) ((at_ ys i.toNat).D))) i.toNat).D))).length] ⟨⟨(by (try simp only [List.length_set]); omega), (by (try simp only [List.length_set]); omega)⟩, (by (try simp only [List.length_set]); omega), trivial⟩ ?_
     refine x_weak [] (T := [(0, .arr 7301), (1, I ((k' + 1) + 1)), (5, I i)]) (O := [(7301, tAFeat (((ys.set i.toNat (Feat.mk k' ((at_ ys i.toNat).Y) ((at_ ys i.toNat).D))).set i.toNat (Feat.mk ((at_ (ys.set i.toNat (Feat.mk k' ((at_ ys i.toNat).Y) ((at_ ys i.toNat).D))) i.toNat).X) (k' + 1) ((at_ (ys.set i.toNat (Feat.mk k' ((at_ ys i.toNat).Y) ((at_ ys i.toNat).D))) i.toNat).D))).set i.toNat (Feat.mk ((at_ ((ys.set i.toNat (Feat.mk k' ((at_ ys i.toNat).Y) ((at_ ys i.toNat).D))).set i.toNat (Feat.mk ((at_ (ys.set i.toNat (Feat.mk k' ((at_ ys i.toNat).Y) ((at_ ys i.toNat).D))) i.toNat).X) (k' + 1) ((at_ (ys.set i.toNat (Feat.mk k' ((at_ ys i.toNat).Y) ((at_ ys i.toNat).D))) i.toNat).D))) i.toNat).X) ((at_ ((ys.set i.toNat (Feat.mk k' ((at_ ys i.toNat).Y) ((at_ ys i.toNat).D))).set i.toNat (Feat.mk ((at_ (ys.set i.toNat (Feat.mk k' ((at_ ys i.toNat).Y) ((at_ ys i.toNat).D))) i.toNat).X) (k' + 1) ((at_ (ys.set i.toNat (Feat.mk k' ((at_ ys i.toNat).Y) ((at_ ys i.toNat).D))) i.toNat).D))) i.toNat).Y) ((k' + 1) + 1))))]) rfl (⟨.inl rfl, .inl rfl, .inl rfl, trivial⟩) (⟨.inr ⟨rfl, (by first | rfl | (simp; done) | (simp; omega) | omega), fun i_ hi_ => .inl (upd_enc (enc := cFeat) rfl i_ hi_)⟩, trivial⟩) ?_
     refine x_r [] [0, 1, 5] [7301] [.arr 7301, I (((k' + 1) + 1) + 1), I i] [some (tAFeat (((ys.set i.toNat (Feat.mk k' ((at_ ys i.toNat).Y) ((at_ ys i.toNat).D))).set i.toNat (Feat.mk ((at_ (ys.set i.toNat (Feat.mk k' ((at_ ys i.toNat).Y) ((at_ ys i.toNat).D))) i.toNat).X) (k' + 1) ((at_ (ys.set i.toNat (Feat.mk k' ((at_ ys i.toNat).Y) ((at_ ys i.toNat).D))) i.toNat).D))).set i.toNat (Feat.mk ((at_ ((ys.set i.toNat (Feat.mk k' ((at_ ys i.toNat).Y) ((at_ ys i.toNat).D))).set i.toNat (Feat.mk ((at_ (ys.set i.toNat (Feat.mk k' ((at_ ys i.toNat).Y) ((at_ ys i.toNat).D))) i.toNat).X) (k' + 1) ((at_ (ys.set i.toNat (Feat.mk k' ((at_ ys i.toNat).Y) ((at_ ys i.toNat).D))) i.toNat).D))) i.toNat).X) ((at_ ((ys.set i.toNat (Feat.mk k' ((at_ ys i.toNat).Y) ((at_ ys i.toNat).D))).set i.toNat (Feat.mk ((at_ (ys.set i.toNat (Feat.mk k' ((at_ ys i.toNat).Y) ((at_ ys i.toNat).D))) i.toNat).X) (k' + 1) ((at_ (ys.set i.toNat (Feat.mk k' ((at_ ys i.toNat).Y) ((at_ ys i.toNat).D))) i.toNat).D))) i.toNat).Y) ((k' + 1) + 1))))] [inR .i64 (((k' + 1) + 1) + 1)] ⟨(inR_i64 (by omega) (by omega)), trivial⟩ ?_
     refine xe_block 1 ?_
     refine xe_then ?_
     refine x_r [] [0, 1, 5] [7301] [.arr 7301, I (((k' + 1) + 1) + 1), I (i + 1)] [some (tAFeat (((ys.set i.toNat (Feat.mk k' ((at_ ys i.toNat).Y) ((at_ ys i.toNat).D))).set i.toNat (Feat.mk ((at_ (ys.set i.toNat (Feat.mk k' ((at_ ys i.toNat).Y) ((at_ ys i.toNat).D))) i.toNat).X) (k' + 1) ((at_ (ys.set i.toNat (Feat.mk k' ((at_ ys i.toNat).Y) ((at_ ys i.toNat).D))) i.toNat).D))).set i.toNat (Feat.mk ((at_ ((ys.set i.toNat (Feat.mk k' ((at_ ys i.toNat).Y) ((at_ ys i.toNat).D))).set i.toNat (Feat.mk ((at_ (ys.set i.toNat (Feat.mk k' ((at_ ys i.toNat).Y) ((at_ ys i.toNat).D))) i.toNat).X) (k' + 1) ((at_ (ys.set i.toNat (Feat.mk k' ((at_ ys i.toNat).Y) ((at_ ys i.toNat).D))) i.toNat).D))) i.toNat).X) ((at_ ((ys.set i.toNat (Feat.mk k' ((at_ ys i.toNat).Y) ((at_ ys i.toNat).D))).set i.toNat (Feat.mk ((at_ (ys.set i.toNat (Feat.mk k' ((at_ ys i.toNat).Y) ((at_ ys i.toNat).D))) i.toNat).X) (k' + 1) ((at_ (ys.set i.toNat (Feat.mk k' ((at_ ys i.toNat).Y) ((at_ ys i.toNat).D))) i.toNat).D))) i.toNat).Y) ((k' + 1) + 1))))] [inR .i64 (i + 1)] ⟨(inR_i64 (by omega) (by omega)), trivial⟩ ?_
     exact xe_again ((((k' + 1) + 1) + 1), (i + 1), (((ys.set i.toNat (Feat.mk k' ((at_ ys i.toNat).Y) ((at_ ys i.toNat).D))).set i.toNat (Feat.mk ((at_ (ys.set i.toNat (Feat.mk k' ((at_ ys i.toNat).Y) ((at_ ys i.toNat).D))) i.toNat).X) (k' + 1) ((at_ (ys.set i.toNat (Feat.mk k' ((at_ ys i.toNat).Y) ((at_ ys i.toNat).D))) i.toNat).D))).set i.toNat (Feat.mk ((at_ ((ys.set i.toNat (Feat.mk k' ((at_ ys i.toNat).Y) ((at_ ys i.toNat).D))).set i.toNat (Feat.mk ((at_ (ys.set i.toNat (Feat.mk k' ((at_ ys i.toNat).Y) ((at_ ys i.toNat).D))) i.toNat).X) (k' + 1) ((at_ (ys.set i.toNat (Feat.mk k' ((at_ ys i.toNat).Y) ((at_ ys i.toNat).D))) i.toNat).D))) i.toNat).X) ((at_ ((ys.set i.toNat (Feat.mk k' ((at_ ys i.toNat).Y) ((at_ ys i.toNat).D))).set i.toNat (Feat.mk ((at_ (ys.set i.toNat (Feat.mk k' ((at_ ys i.toNat).Y) ((at_ ys i.toNat).D))) i.toNat).X) (k' + 1) ((at_ (ys.set i.toNat (Feat.mk k' ((at_ ys i.toNat).Y) ((at_ ys i.toNat).D))) i.toNat).D))) i.toNat).Y) ((k' + 1) + 1)))) rfl (show (0 ≤ (i + 1) ∧ (i + 1) ≤ (al.length : Int)) ∧ ((((ys.set i.toNat (Feat.mk k' ((at_ ys i.toNat).Y) ((at_ ys i.toNat).D))).set i.toNat (Feat.mk ((at_ (ys.set i.toNat (Feat.mk k' ((at_ ys i.toNat).Y) ((at_ ys i.toNat).D))) i.toNat).X) (k' + 1) ((at_ (ys.set i.toNat (Feat.mk k' ((at_ ys i.toNat).Y) ((at_ ys i.toNat).D))) i.toNat).D))).set i.toNat (Feat.mk ((at_ ((ys.set i.toNat (Feat.mk k' ((at_ ys i.toNat).Y) ((at_ ys i.toNat).D))).set i.toNat (Feat.mk ((at_ (ys.set i.toNat (Feat.mk k' ((at_ ys i.toNat).Y) ((at_ ys i.toNat).D))) i.toNat).X) (k' + 1) ((at_ (ys.set i.toNat (Feat.mk k' ((at_ ys i.toNat).Y) ((at_ ys i.toNat).D))) i.toNat).D))) i.toNat).X) ((at_ ((ys.set i.toNat (Feat.mk k' ((at_ ys i.toNat).Y) ((at_ ys i.toNat).D))).set i.toNat (Feat.mk ((at_ (ys.set i.toNat (Feat.mk k' ((at_ ys i.toNat).Y) ((at_ ys i.toNat).D))) i.toNat).X) (k' + 1) ((at_ (ys.set i.toNat (Feat.mk k' ((at_ ys i.toNat).Y) ((at_ ys i.toNat).D))) i.toNat).D))) i.toNat).Y) ((k' + 1) + 1))).length = al.length) ∧ ((((k' + 1) + 1) + 1) = k + 3 * (i + 1)) ∧ (∀ j : Nat, (j : Int) < (i + 1) → at_ (((ys.set i.toNat (Feat.mk k' ((at_ ys i.toNat).Y) ((at_ ys i.toNat).D))).set i.toNat (Feat.mk ((at_ (ys.set i.toNat (Feat.mk k' ((at_ ys i.toNat).Y) ((at_ ys i.toNat).D))) i.toNat).X) (k' + 1) ((at_ (ys.set i.toNat (Feat.mk k' ((at_ ys i.toNat).Y) ((at_ ys i.toNat).D))) i.toNat).D))).set i.toNat (Feat.mk ((at_ ((ys.set i.toNat (Feat.mk k' ((at_ ys i.toNat).Y) ((at_ ys i.toNat).D))).set i.toNat (Feat.mk ((at_ (ys.set i.toNat (Feat.mk k' ((at_ ys i.toNat).Y) ((at_ ys i.toNat).D))) i.toNat).X) (k' + 1) ((at_ (ys.set i.toNat (Feat.mk k' ((at_ ys i.toNat).Y) ((at_ ys i.toNat).D))) i.toNat).D))) i.toNat).X) ((at_ ((ys.set i.toNat (Feat.mk k' ((at_ ys i.toNat).Y) ((at_ ys i.toNat).D))).set i.toNat (Feat.mk ((at_ (ys.set i.toNat (Feat.mk k' ((at_ ys i.toNat).Y) ((at_ ys i.toNat).D))) i.toNat).X) (k' + 1) ((at_ (ys.set i.toNat (Feat.mk k' ((at_ ys i.toNat).Y) ((at_ ys i.toNat).D))) i.toNat).D))) i.toNat).Y) ((k' + 1) + 1))) j = ⟨k + 3 * (j : Int), k + 3 * (j : Int) + 1, k + 3 * (j : Int) + 2⟩) ∧ True from ⟨(by omega), (by simp; omega), (by omega), (by simp only [List.set_set, at_setQ hiy]; exact mk_next hi0.1 hiy hy1 (by simp only [Feat.mk.injEq]; omega)), trivial⟩) (by first | (show (((al.length : Int) - (i + 1)).toNat : Nat) < ((al.length : Int) - i).toNat; omega) | (dsimp only; omega))
    refine x_r [(3, .dec false)] [0, 1, 5, 9] [7301] [.arr 7301, I k', I i, Bv false] [some (tAFeat ys)] [¬ (i < (ys.length : Int))] ⟨h1, trivial⟩ ?_
    refine xe_then ?_
    refine x_false rfl ?_
    refine x_exit ?_
    refine xe_exit_then ?_
    refine xe_loop_exit ?_
    refine xe_exit_same ?_
    refine xe_then ?_
    refine xR [] [4] [7301] [I k'] [some (tAFeat ys)] [] trivial ?_
    refine x_ret ?_
    refine xe_end (k', ys) (show (k' = k + 3 * (al.length : Int)) ∧ (ys = mkL k al.length) ∧ (True) from ⟨(by first | omega | exact ext_at (by rw [hy0, mkL_len]) (fun j hj => by rw [hy1 j (by omega), mkL_at (by omega)])), (by first | omega | exact ext_at (by rw [hy0, mkL_len]) (fun j hj => by rw [hy1 j (by omega), mkL_at (by omega)])), trivial⟩) (⟨.inl rfl, trivial⟩) (I k') (by kernel_rfl) (.inl rfl) (fun _ => rfl) (fun _ => trivial)
  obtain ⟨⟨v, al'⟩, ⟨hh0, hh1, _⟩, hc⟩ := hh
  exact ⟨v, al', hh0, hh1, hc⟩

theorem markRow7411_ok (al : List Feat) (alN : Nat) (alm : Nat → Nat) (alg : Nat → Nat → List AV) (alp : Nat) (k : Int) (hk : 0 ≤ k ∧ k ≤ 100000000 ∧ al.length ≤ 2000000 ∧ alp < alN) : ∃ (v : Int) (al' : List Feat), (v = k + 3 * (al.length : Int)) ∧ (al' = mkL k al.length) ∧ CallOK Tryz.prog 24 [.row 7411 alp, I k] (lookO [(7411, .fam alN 3 (famUp alp al.length alm) (famUpF alp (fFeat al) alg))]) true (I v) (lookO [(7411, .fam alN 3 (famUp alp al'.length alm) (famUpF alp (fFeat al') alg))]) := by
  have hh : ∃ r : Int × (List Feat), ((r.1 = k + 3 * (al.length : Int)) ∧ (r.2 = mkL k al.length) ∧ (True)) ∧ CallOK Tryz.prog 24 [.row 7411 alp, I k] (lookO [(7411, .fam alN 3 (famUp alp al.length alm) (famUpF alp (fFeat al) alg))]) true (I r.1) (lookO [(7411, .fam alN 3 (famUp alp r.2.length alm) (famUpF alp (fFeat r.2) alg))]) := by
    refine fn_okX (Φ := fun r : Int × (List Feat) => (r.1 = k + 3 * (al.length : Int)) ∧ (r.2 = mkL k al.length) ∧ (True)) [(7411, .fam alN 3 (famUp alp al.length alm) (famUpF alp (fFeat al) alg))] (fun r => [(7411, .fam alN 3 (famUp alp r.2.length alm) (famUpF alp (fFeat r.2) alg))]) (fn := Tryz.f24) (nt := 34) Tryz.func24 rfl rfl (args := [.row 7411 alp, I k]) rfl (allcons (.inr (by simp [tagged, taggedL])) (allcons (.inl ⟨rfl, trivial⟩) allnil)) (res := fun r => I r.1) ?_
    refine xR [] [0, 1] [7411] [.row 7411 alp, I k] [some (.fam alN 3 (famUp alp al.length alm) (famUpF alp (fFeat al) alg))] [] trivial ?_
    refine x_seq ?_
    refine xR [] [0, 1, 5] [7411] [.row 7411 alp, I k, I 0] [some (.fam alN 3 (famUp alp al.length alm) (famUpF alp (fFeat al) alg))] [] trivial ?_
    refine x_block ?_
    refine x_loop (X := Int × Int × (List Feat)) (fun x => mkS [(0, .row 7411 alp), (1, I x.1), (5, I x.2.1)] [(7411, .fam alN 3 (famUp alp x.2.2.length alm) (famUpF alp (fFeat x.2.2) alg))]) (fun x => (0 ≤ x.2.1 ∧ x.2.1 ≤ (al.length : Int)) ∧ (x.2.2.length = al.length) ∧ (x.1 = k + 3 * x.2.1) ∧ (∀ j : Nat, (j : Int) < x.2.1 → at_ x.2.2 j = ⟨k + 3 * (j : Int), k + 3 * (j : Int) + 1, k + 3 * (j : Int) + 2⟩) ∧ True) (fun x => ((al.length : Int) - x.2.1).toNat) (k, 0, al) rfl (show (0 ≤ (0 : Int) ∧ (0 : Int) ≤ (al.length : Int)) ∧ (al.length = al.length) ∧ (k = k + 3 * (0 : Int)) ∧ (∀ j : Nat, (j : Int) < (0 : Int) → at_ al j = ⟨k + 3 * (j : Int), k + 3 * (j : Int) + 1, k + 3 * (j : Int) + 2⟩) ∧ True from ⟨(by omega), (by rfl), (by omega), (by intro j hj; omega), trivial⟩) (fun x hI => ?_)
    obtain ⟨k', i, ys⟩ := x
    obtain ⟨hi0, hy0, hk1, hy1, _⟩ : (0 ≤ i ∧ i ≤ (al.length : Int)) ∧ (ys.length = al.length) ∧ (k' = k + 3 * i) ∧ (∀ j : Nat, (j : Int) < i → at_ ys j = ⟨k + 3 * (j : Int), k + 3 * (j : Int) + 1, k + 3 * (j : Int) + 2⟩) ∧ True := hI
    show XW _ _ _ _ (mkS [(0, .row 7411 alp), (1, I k'), (5, I i)] [(7411, .fam alN 3 (famUp alp ys.length alm) (famUpF alp (fFeat ys) alg))]) _ _
    refine x_seq ?_
    refine x_seq ?_
    by_cases h1 : i < ((famUp alp ys.length alm alp) : Int)
    ·have hq := h1
     rw [famUp_at] at hq
     have hi : i.toNat < al.length := by omega
     have hiy : i.toNat < ys.length := by omega
     refine x_r [(3, .dec true)] [0, 1, 5, 9] [7411] [.row 7411 alp, I k', I i, Bv true] [some (.fam alN 3 (famUp alp ys.length alm) (famUpF alp (fFeat ys) alg))] [alp < alN, i < ((famUp alp ys.length alm alp) : Int)] ⟨(by omega), h1, trivial⟩ ?_
     refine xe_then ?_
     refine x_true rfl ?_
     refine x_skip ?_
     refine xe_then ?_
     refine x_seq ?_
     refine x_block ?_
     refine xR [] [0, 1, 5] [7411] [.row 7411 alp, I k', I i] [some (.fam alN 3 (famUp alp ys.length alm) (fun q => bif Nat.beq q alp then (fun q => bif Nat.beq q i.toNat then spl ((famUpF alp (fFeat ys) alg) alp i.toNat) 0 [I k'] else (famUpF alp (fFeat ys) alg) alp q) else (famUpF alp (fFeat ys) alg) q))] [alp < alN ∧ (0 : Int) ≤ i ∧ i < ((famUp alp ys.length alm alp) : Int), alp < alN ∧ i.toNat < (famUp alp ys.length alm alp)] ⟨⟨(by omega), (by omega), (by (try simp only [List.length_set, famUp_at]); omega)⟩, ⟨(by omega), (by (try simp only [List.length_set, famUp_at]); omega)⟩, trivial⟩ ?_
     refine x_seq ?_
     refine x_weak [] (T := [(0, .row 7411 alp), (1, I k'), (5, I i)]) (O := [(7411, .fam alN 3 (famUp alp (ys.set i.toNat (Feat.mk k' ((at_ ys i.toNat).Y) ((at_ ys i.toNat).D))).length alm) (famUpF alp (fFeat (ys.set i.toNat (Feat.mk k' ((at_ ys i.toNat).Y) ((at_ ys i.toNat).D)))) alg))]) rfl (⟨.inl rfl, .inl rfl, .inl rfl, trivial⟩) (⟨.inr (fgsetFeat ((by omega)) rfl), trivial⟩) ?_
     refine x_r [] [0, 1, 5] [7411] [.row 7411 alp, I (k' + 1), I i] [some (.fam alN 3 (famUp alp (ys.set i.toNat (Feat.mk k' ((at_ ys i.toNat).Y) ((at_ ys i.toNat).D))).length alm) (famUpF alp (fFeat (ys.set i.toNat (Feat.mk k' ((at_ ys i.toNat).Y) ((at_ ys i.toNat).D)))) alg))] [inR .i64 (k' + 1)] ⟨(inR_i64 (by omega) (by omega)), trivial⟩ ?_
     refine xe_then ?_
     refine xR [] [0, 1, 5] [7411] [.row 7411 alp, I (k' + 1), I i] [some (.fam alN 3 (famUp alp (ys.set i.toNat (Feat.mk k' ((at_ ys i.toNat).Y) ((at_ ys i.toNat).D))).length alm) (fun q => bif Nat.beq q alp then (fun q => bif Nat.beq q i.toNat then spl ((famUpF alp (fFeat (ys.set i.toNat (Feat.mk k' ((at_ ys i.toNat).Y) ((at_ ys i.toNat).D)))) alg) alp i.toNat) 1 [I (k' + 1)] else (famUpF alp (fFeat (ys.set i.toNat (Feat.mk k' ((at_ ys i.toNat).Y) ((at_ ys i.toNat).D)))) alg) alp q) else (famUpF alp (fFeat (ys.set i.toNat (Feat.mk k' ((at_ ys i.toNat).Y) ((at_ ys i.toNat).D)))) alg) q))] [alp < alN ∧ (0 : Int) ≤ i ∧ i < ((famUp alp (ys.set i.toNat (Feat.mk k' ((at_ ys i.toNat).Y) ((at_ ys i.toNat).D))).length alm alp) : Int), alp < alN ∧ i.toNat < (famUp alp (ys.set i.toNat (Feat.mk k' ((at_ ys i.toNat).Y) ((at_ ys i.toNat).D))).length alm alp)] ⟨⟨(by omega), (by omega), (by (try simp only [List.length_set, famUp_at]); omega)⟩, ⟨(by omega), (by (try simp only [List.length_set, famUp_at]); omega)⟩, trivial⟩ ?_
     refine x_seq ?_
     refine x_weak [] (T := [(0, .row 7411 alp), (1, I (k' + 1)), (5, I i)]) (O := [(7411, .fam alN 3 (famUp alp ((ys.set i.toNat (Feat.mk k' ((at_ ys i.toNat).Y) ((at_ ys i.toNat).D))).set i.toNat (Feat.mk ((at_ (ys.set i.toNat (Feat.mk k' ((at_ ys i.toNat).Y) ((at_ ys i.toNat).D))) i.toNat).X) (k' + 1) ((at_ (ys.set i.toNat (Feat.mk k' ((at_ ys i.toNat).Y) ((at_ ys i.toNat).D))) i.toNat).D))).length alm) (famUpF alp (fFeat ((ys.set i.toNat (Feat.mk k' ((at_ ys i.toNat).Y) ((at_ ys i.toNat).D))).set i.toNat (Feat.mk ((at_ (ys.set i.toNat (Feat.mk k' ((at_ ys i.toNat).Y) ((at_ ys i.toNat).D))) i.toNat).X) (k' + 1) ((at_ (ys.set i.toNat (Feat.mk k' ((at_ ys i.toNat).Y) ((at_ ys i.toNat).D))) i.toNat).D)))) alg))]) rfl (⟨.inl rfl, .inl rfl, .inl rfl, trivial⟩) (⟨.inr (fgsetFeat ((by (try simp only [List.length_set, famUp_at]); omega)) rfl), trivial⟩) ?_
     refine x_r [] [0, 1, 5] [7411] [.row 7411 alp, I ((k' + 1) + 1), I i] [some (.fam alN 3 (famUp alp ((ys.set i.toNat (Feat.mk k' ((at_ ys i.toNat).Y) ((at_ ys i.toNat).D))).set i.toNat (Feat.mk ((at_ (ys.set i.toNat (Feat.mk k' ((at_ ys i.toNat).Y) ((at_ ys i.toNat).D))) i.toNat).X) (k' + 1) ((at_ (ys.set i.toNat (Feat.mk k' ((at_ ys i.toNat).Y) ((at_ ys i.toNat).D))) i.toNat).D))).length alm) (famUpF alp (fFeat ((ys.set i.toNat (Feat.mk k' ((at_ ys i.toNat).Y) ((at_ ys i.toNat).D))).set i.toNat (Feat.mk ((at_ (ys.set i.toNat (Feat.mk k' ((at_ ys i.toNat).Y) ((at_ ys i.toNat).D))) i.toNat).X) (k' + 1) ((at_ (ys.set i.toNat (Feat.mk k' ((at_ ys i.toNat).Y) ((at_ ys i.toNat).D))) i.toNat).D)))) alg))] [inR .i64 ((k' + 1) + 1)] ⟨(inR_i64 (by omega) (by omega)), trivial⟩ ?_
     refine xe_then ?_
     refine xR [] [0, 1, 5] [7411] [.row 7411 alp, I ((k' + 1) + 1), I i] [some (.fam alN 3 (famUp alp ((ys.set i.toNat (Feat.mk k' ((at_ ys i.toNat).Y) ((at_ ys i.toNat).D))).set i.toNat (Feat.mk ((at_ (ys.set i.toNat (Feat.mk k' ((at_ ys i.toNat).Y) ((at_ ys i.toNat).D))) i.toNat).X) (k' + 1) ((at_ (ys.set i.toNat (Feat.mk k' ((at_ ys i.toNat).Y) ((at_ ys i.toNat).D))) i.toNat).D))).length alm) (fun q => bif Nat.beq q alp then (fun q => bif Nat.beq q i.toNat then spl ((famUpF alp (fFeat ((ys.set i.toNat (Feat.mk k' ((at_ ys i.toNat).Y) ((at_ ys i.toNat).D))).set i.toNat (Feat.mk ((at_ (ys.set i.toNat (Feat.mk k' ((at_ ys i.toNat).Y) ((at_ ys i.toNat).D))) i.toNat).X) (k' + 1) ((at_ (ys.set i.toNat (Feat.mk k' ((at_ ys i.toNat).Y) ((at_ ys i.toNat).D))) i.toNat).D)))) alg) alp i.toNat) 2 [I ((k' + 1) + 1)] else (famUpF alp (fFeat ((ys.set i.toNat (Feat.mk k' ((at_ ys i.toNat).Y) ((at_ ys i.toNat).D))).set i.toNat (Feat.mk ((at_ (ys.set i.toNat (Feat.mk k' ((at_ ys i.toNat).Y) ((at_ ys i.toNat).D))) i.toNat).X) (k' + 1) ((at_ (ys.set i.toNat (Feat.mk k' ((at_ ys i.toNat).Y) ((at_ ys i.toNat).D))) i.toNat).D)))) alg) alp q) else (famUpF alp (fFeat ((ys.set i.toNat (Feat.mk k' ((at_ ys i.toNat).Y) ((at_ ys i.toNat).D))).set i.toNat (Feat.mk ((at_ (ys.set i.toNat (Feat.mk k' ((at_ ys i.toNat).Y) ((at_ ys i.toNat).D))) i.toNat).X) (k' + 1) ((at_ (ys.set i.toNat (Feat.mk k' ((at_ ys i.toNat).Y) ((at_ ys i.toNat).D))) i.toNat).D)))) alg) q))] [alp < alN ∧ (0 : Int) ≤ i ∧ i < ((famUp alp ((ys.set i.toNat (Feat.mk k' ((at_ ys i.toNat).Y) ((at_ ys i.toNat).D))).set i.toNat (Feat.mk ((at_ (ys.set i.toNat (Feat.mk k' ((at_ ys i.toNat).Y) ((at_ ys i.toNat).D))) i.toNat).X) (k' + 1) ((at_ (ys.set i.toNat (Feat.mk k' ((at_ ys i.toNat).Y) ((at_ ys i.toNat).D))) i.toNat).D))).length alm alp) : Int), alp < alN ∧ i.toNat < (famUp alp ((ys.set i.toNat (Feat.mk k' ((at_ ys i.toNat).Y) ((at_ ys i.toNat).D))).set i.toNat (Feat.mk ((at_ (ys.set i.toNat (Feat.mk k' ((at_ ys i.toNat).Y) ((at_ ys i.toNat).D))) i.toNat).X) (k' + 1) ((at_ (ys.set i.toNat (Feat.mk k' ((at_ ys i.toNat).Y) ((at_ ys i.toNat).D))) i.toNat).D))).length alm alp)] ⟨⟨(by omega), (by omega), (by (try simp only [List.length_set, famUp_at]); omega)⟩, ⟨(by omega), (by (try simp only [List.length_set, famUp_at]); omega)⟩, trivial⟩ ?_
     refine x_weak [] (T := [(0, .row 7411 alp), (1, I ((k' + 1) + 1)), (5, I i)]) (O := [(7411, .fam alN 3 (famUp alp (((ys.set i.toNat (Feat.mk k' ((at_ ys i.toNat).Y) ((at_ ys i.toNat).D))).set i.toNat (Feat.mk ((at_ (ys.set i.toNat (Feat.mk k' ((at_ ys i.toNat).Y) ((at_ ys i.toNat).D))) i.toNat).X) (k' + 1) ((at_ (ys.set i.toNat (Feat.mk k' ((at_ ys i.toNat).Y) ((at_ ys i.toNat).D))) i.toNat).D))).set i.toNat (Feat.mk ((at_ ((ys.set i.toNat (Feat.mk k' ((at_ ys i.toNat).Y) ((at_ ys i.toNat).D))).set i.toNat (Feat.mk ((at_ (ys.set i.toNat (Feat.mk k' ((at_ ys i.toNat).Y) ((at_ ys i.toNat).D))) i.toNat).X) (k' + 1) ((at_ (ys.set i.toNat (Feat.mk k' ((at_ ys i.toNat).Y) ((at_ ys i.toNat).D))) i.toNat).D))) i.toNat).X) ((at_ ((ys.set i.toNat (Feat.mk k' ((at_ ys i.toNat).Y) ((at_ ys i.toNat).D))).set i.toNat (Feat.mk ((at_ (ys.set i.toNat (Feat.mk k' ((at_ ys i.toNat).Y) ((at_ ys i.toNat).D))) i.toNat).X) (k' + 1) ((at_ (ys.set i.toNat (Feat.mk k' ((at_ ys i.toNat).Y) ((at_ ys i.toNat).D))) i.toNat).D))) i.toNat).Y) ((k' + 1) + 1))).length alm) (famUpF alp (fFeat (((ys.set i.toNat (Feat.mk k' ((at_ ys i.toNat).Y) ((at_ ys i.toNat).D))).set i.toNat (Feat.mk ((at_ (ys.set i.toNat (Feat.mk k' ((at_ ys i.toNat).Y) ((at_ ys i.toNat).D))) i.toNat).X) (k' + 1) ((at_ (ys.set i.toNat (Feat.mk k' ((at_ ys i.toNat).Y) ((at_ ys i.toNat).D))) i.toNat).D))).set i.toNat (Feat.mk ((at_ ((ys.set i.toNat (Feat.mk k' ((at_ ys i.toNat).Y) ((at_ ys i.toNat).D))).set i.toNat (Feat.mk ((at_ (ys.set i.toNat (Feat.mk k' ((at_ ys i.toNat).Y) ((at_ ys i.toNat).D))) i.toNat).X) (k' + 1) ((at_ (ys.set i.toNat (Feat.mk k' ((at_ ys i.toNat).Y) ((at_ ys i.toNat).D))) i.toNat).D))) i.toNat).X) ((at_ ((ys.set i.toNat (Feat.mk k' ((at_ ys i.toNat).Y) ((at_ ys i.toNat).D))).set i.toNat (Feat.mk ((at_ (ys.set i.toNat (Feat.mk k' ((at_ ys i.toNat).Y) ((at_ ys i.toNat).D))) i.toNat).X) (k' + 1) ((at_ (ys.set i.toNat (Feat.mk k' ((at_ ys i.toNat).Y) ((at_ ys i.toNat).D))) i.toNat).D))) i.toNat).Y) ((k' + 1) + 1)))) alg))]) rfl (⟨.inl rfl, .inl rfl, .inl rfl, trivial⟩) (⟨.inr (fgsetFeat ((by (try simp only [List.length_set, famUp_at]); omega)) rfl), trivial⟩) ?_
     refine x_r [] [0, 1, 5] [7411] [.row 7411 alp, I (((k' + 1) + 1) + 1), I i] [some (.fam alN 3 (famUp alp (((ys.set i.toNat (Feat.mk k' ((at_ ys i.toNat).Y) ((at_ ys i.toNat).D))).set i.toNat (Feat.mk ((at_ (ys.set i.toNat (Feat.mk k' ((at_ ys i.toNat).Y) ((at_ ys i.toNat).D))) i.toNat).X) (k' + 1) ((at_ (ys.set i.toNat (Feat.mk k' ((at_ ys i.toNat).Y) ((at_ ys i.toNat).D))) i.toNat).D))).set i.toNat (Feat.mk ((at_ ((ys.set i.toNat (Feat.mk k' ((at_ ys i.toNat).Y) ((at_ ys i.toNat).D))).set i.toNat (Feat.mk ((at_ (ys.set i.toNat (Feat.mk k' ((at_ ys i.toNat).Y) ((at_ ys i.toNat).D))) i.toNat).X) (k' + 1) ((at_ (ys.set i.toNat (Feat.mk k' ((at_ ys i.toNat).Y) ((at_ ys i.toNat).D))) i.toNat).D))) i.toNat).X) ((at_ ((ys.set i.toNat (Feat.mk k' ((at_ ys i.toNat).Y) ((at_ ys i.toNat).D))).set i.toNat (Feat.mk ((at_ (ys.set i.toNat (Feat.mk k' ((at_ ys i.toNat).Y) ((at_ ys i.toNat).D))) i.toNat).X) (k' + 1) ((at_ (ys.set i.toNat (Feat.mk k' ((at_ ys i.toNat).Y) ((at_ ys i.toNat).D))) i.toNat).D))) i.toNat).Y) ((k' + 1) + 1))).length alm) (famUpF alp (fFeat (((ys.set i.toNat (Feat.mk k' ((at_ ys i.toNat).Y) ((at_ ys i.toNat).D))).set i.toNat (Feat.mk ((at_ (ys.set i.toNat (Feat.mk k' ((at_ ys i.toNat).Y) ((at_ ys i.toNat).D))) i.toNat).X) (k' + 1) ((at_ (ys.set i.toNat (Feat.mk k' ((at_ ys i.toNat).Y) ((at_ ys i.toNat).D))) i.toNat).D))).set i.toNat (Feat.mk ((at_ ((ys.set i.toNat (Feat.mk k' ((at_ ys i.toNat).Y) ((at_ ys i.toNat).D))).set i.toNat (Feat.mk ((at_ (ys.set i.toNat (Feat.mk k' ((at_ ys i.toNat).Y) ((at_ ys i.toNat).D))) i.toNat).X) (k' + 1) ((at_ (ys.set i.toNat (Feat.mk k' ((at_ ys i.toNat).Y) ((at_ ys i.toNat).D))) i.toNat).D))) i.toNat).X) ((at_ ((ys.set i.toNat (Feat.mk k' ((at_ ys i.toNat).Y) ((at_ ys i.toNat).D))).set i.toNat (Feat.mk ((at_ (ys.set i.toNat (Feat.mk k' ((at_ ys i.toNat).Y) ((at_ ys i.toNat).D))) i.toNat).X) (k' + 1) ((at_ (ys.set i.toNat (Feat.mk k' ((at_ ys i.toNat).Y) ((at_ ys i.toNat).D))) i.toNat).D))) i.toNat).Y) ((k' + 1) + 1)))) alg))] [inR .i64 (((k' + 1) + 1) + 1)] ⟨(inR_i64 (by omega) (by omega)), trivial⟩ ?_
     refine xe_block 1 ?_
     refine xe_then ?_
     refine x_r [] [0, 1, 5] [7411] [.row 7411 alp, I (((k' + 1) + 1) + 1), I (i + 1)] [some (.fam alN 3 (famUp alp (((ys.set i.toNat (Feat.mk k' ((at_ ys i.toNat).Y) ((at_ ys i.toNat).D))).set i.toNat (Feat.mk ((at_ (ys.set i.toNat (Feat.mk k' ((at_ ys i.toNat).Y) ((at_ ys i.toNat).D))) i.toNat).X) (k' + 1) ((at_ (ys.set i.toNat (Feat.mk k' ((at_ ys i.toNat).Y) ((at_ ys i.toNat).D))) i.toNat).D))).set i.toNat (Feat.mk ((at_ ((ys.set i.toNat (Feat.mk k' ((at_ ys i.toNat).Y) ((at_ ys i.toNat).D))).set i.toNat (Feat.mk ((at_ (ys.set i.toNat (Feat.mk k' ((at_ ys i.toNat).Y) ((at_ ys i.toNat).D))) i.toNat).X) (k' + 1) ((at_ (ys.set i.toNat (Feat.mk k' ((at_ ys i.toNat).Y) ((at_ ys i.toNat).D))) i.toNat).D))) i.toNat).X) ((at_ ((ys.set i.toNat (Feat.mk k' ((at_ ys i.toNat).Y) ((at_ ys i.toNat).D))).set i.toNat (Feat.mk ((at_ (ys.set i.toNat (Feat.mk k' ((at_ ys i.toNat).Y) ((at_ ys i.toNat).D))) i.toNat).X) (k' + 1) ((at_ (ys.set i.toNat (Feat.mk k' ((at_ ys i.toNat).Y) ((at_ ys i.toNat).D))) i.toNat).D))) i.toNat).Y) ((k' + 1) + 1))).length alm) (famUpF alp (fFeat (((ys.set i.toNat (Feat.mk k' ((at_ ys i.toNat).Y) ((at_ ys i.toNat).D))).set i.toNat (Feat.mk ((at_ (ys.set i.toNat (Feat.mk k' ((at_ ys i.toNat).Y) ((at_ ys i.toNat).D))) i.toNat).X) (k' + 1) ((at_ (ys.set i.toNat (Feat.mk k' ((at_ ys i.toNat).Y) ((at_ ys i.toNat).D))) i.toNat).D))).set i.toNat (Feat.mk ((at_ ((ys.set i.toNat (Feat.mk k' ((at_ ys i.toNat).Y) ((at_ ys i.toNat).D))).set i.toNat (Feat.mk ((at_ (ys.set i.toNat (Feat.mk k' ((at_ ys i.toNat).Y) ((at_ ys i.toNat).D))) i.toNat).X) (k' + 1) ((at_ (ys.set i.toNat (Feat.mk k' ((at_ ys i.toNat).Y) ((at_ ys i.toNat).D))) i.toNat).D))) i.toNat).X) ((at_ ((ys.set i.toNat (Feat.mk k' ((at_ ys i.toNat).Y) ((at_ ys i.toNat).D))).set i.toNat (Feat.mk ((at_ (ys.set i.toNat (Feat.mk k' ((at_ ys i.toNat).Y) ((at_ ys i.toNat).D))) i.toNat).X) (k' + 1) ((at_ (ys.set i.toNat (Feat.mk k' ((at_ ys i.toNat).Y) ((at_ ys i.toNat).D))) i.toNat).D))) i.toNat).Y) ((k' + 1) + 1)))) alg))] [inR .i64 (i + 1)] ⟨(inR_i64 (by omega) (by omega)), trivial⟩ ?_
     exact xe_again ((((k' + 1) + 1) + 1), (i + 1), (((ys.set i.toNat (Feat.mk k' ((at_ ys i.toNat).Y) ((at_ ys i.toNat).D))).set i.toNat (Feat.mk ((at_ (ys.set i.toNat (Feat.mk k' ((at_ ys i.toNat).Y) ((at_ ys i.toNat).D))) i.toNat).X) (k' + 1) ((at_ (ys.set i.toNat (Feat.mk k' ((at_ ys i.toNat).Y) ((at_ ys i.toNat).D))) i.toNat).D))).set i.toNat (Feat.mk ((at_ ((ys.set i.toNat (Feat.mk k' ((at_ ys i.toNat).Y) ((at_ ys i.toNat).D))).set i.toNat (Feat.mk ((at_ (ys.set i.toNat (Feat.mk k' ((at_ ys i.toNat).Y) ((at_ ys i.toNat).D))) i.toNat).X) (k' + 1) ((at_ (ys.set i.toNat (Feat.mk k' ((at_ ys i.toNat).Y) ((at_ ys i.toNat).D))) i.toNat).D))) i.toNat).X) ((at_ ((ys.set i.toNat (Feat.mk k' ((at_ ys i.toNat).Y) ((at_ ys i.toNat).D))).set i.toNat (Feat.mk ((at_ (ys.set i.toNat (Feat.mk k' ((at_ ys i.toNat).Y) ((at_ ys i.toNat).D))) i.toNat).X) (k' + 1) ((at_ (ys.set i.toNat (Feat.mk k' ((at_ ys i.toNat).Y) ((at_ ys i.toNat).D))) i.toNat).D))) i.toNat).Y) ((k' + 1) + 1)))) rfl (show (0 ≤ (i + 1) ∧ (i + 1) ≤ (al.length : Int)) ∧ ((((ys.set i.toNat (Feat.mk k' ((at_ ys i.toNat).Y) ((at_ ys i.toNat).D))).set i.toNat (Feat.mk ((at_ (ys.set i.toNat (Feat.mk k' ((at_ ys i.toNat).Y) ((at_ ys i.toNat).D))) i.toNat).X) (k' + 1) ((at_ (ys.set i.toNat (Feat.mk k' ((at_ ys i.toNat).Y) ((at_ ys i.toNat).D))) i.toNat).D))).set i.toNat (Feat.mk ((at_ ((ys.set i.toNat (Feat.mk k' ((at_ ys i.toNat).Y) ((at_ ys i.toNat).D))).set i.toNat (Feat.mk ((at_ (ys.set i.toNat (Feat.mk k' ((at_ ys i.toNat).Y) ((at_ ys i.toNat).D))) i.toNat).X) (k' + 1) ((at_ (ys.set i.toNat (Feat.mk k' ((at_ ys i.toNat).Y) ((at_ ys i.toNat).D))) i.toNat).D))) i.toNat).X) ((at_ ((ys.set i.toNat (Feat.mk k' ((at_ ys i.toNat).Y) ((at_ ys i.toNat).D))).set i.toNat (Feat.mk ((at_ (ys.set i.toNat (Feat.mk k' ((at_ ys i.toNat).Y) ((at_ ys i.toNat).D))) i.toNat).X) (k' + 1) ((at_ (ys.set i.toNat (Feat.mk k' ((at_ ys i.toNat).Y) ((at_ ys i.toNat).D))) i.toNat).D))) i.toNat).Y) ((k' + 1) + 1))).length = al.length) ∧ ((((k' + 1) + 1) + 1) = k + 3 * (i + 1)) ∧ (∀ j : Nat, (j : Int) < (i + 1) → at_ (((ys.set i.toNat (Feat.mk k' ((at_ ys i.toNat).Y) ((at_ ys i.toNat).D))).set i.toNat (Feat.mk ((at_ (ys.set i.toNat (Feat.mk k' ((at_ ys i.toNat).Y) ((at_ ys i.toNat).D))) i.toNat).X) (k' + 1) ((at_ (ys.set i.toNat (Feat.mk k' ((at_ ys i.toNat).Y) ((at_ ys i.toNat).D))) i.toNat).D))).set i.toNat (Feat.mk ((at_ ((ys.set i.toNat (Feat.mk k' ((at_ ys i.toNat).Y) ((at_ ys i.toNat).D))).set i.toNat (Feat.mk ((at_ (ys.set i.toNat (Feat.mk k' ((at_ ys i.toNat).Y) ((at_ ys i.toNat).D))) i.toNat).X) (k' + 1) ((at_ (ys.set i.toNat (Feat.mk k' ((at_ ys i.toNat).Y) ((at_ ys i.toNat).D))) i.toNat).D))) i.toNat).X) ((at_ ((ys.set i.toNat (Feat.mk k' ((at_ ys i.toNat).Y) ((at_ ys i.toNat).D))).set i.toNat (Feat.mk ((at_ (ys.set i.toNat (Feat.mk k' ((at_ ys i.toNat).Y) ((at_ ys i.toNat).D))) i.toNat).X) (k' + 1) ((at_ (ys.set i.toNat (Feat.mk k' ((at_ ys i.toNat).Y) ((at_ ys i.toNat).D))) i.toNat).D))) i.toNat).Y) ((k' + 1) + 1))) j = ⟨k + 3 * (j : Int), k + 3 * (j : Int) + 1, k + 3 * (j : Int) + 2⟩) ∧ True from ⟨(by omega), (by simp; omega), (by omega), (by simp only [List.set_set, at_setQ hiy]; exact mk_next hi0.1 hiy hy1 (by simp only [Feat.mk.injEq]; omega)), trivial⟩) (by first | (show (((al.length : Int) - (i + 1)).toNat : Nat) < ((al.length : Int) - i).toNat; omega) | (dsimp only; omega))
    have hq := h1
    rw [famUp_at] at hq
    refine x_r [(3, .dec false)] [0, 1, 5, 9] [7411] [.row 7411 alp, I k', I i, Bv false] [some (.fam alN 3 (famUp alp ys.length alm) (famUpF alp (fFeat ys) alg))] [alp < alN, ¬ (i < ((famUp alp ys.length alm alp) : Int))] ⟨(by omega), h1, trivial⟩ ?_
    refine xe_then ?_
    refine x_false rfl ?_
    refine x_exit ?_
    refine xe_exit_then ?_
    refine xe_loop_exit ?_
    refine xe_exit_same ?_
    refine xe_then ?_
    refine xR [] [4] [7411] [I k'] [some (.fam alN 3 (famUp alp ys.length alm) (famUpF alp (fFeat ys) alg))] [] trivial ?_
    refine x_ret ?_
    refine xe_end (k', ys) (show (k' = k + 3 * (al.length : Int)) ∧ (ys = mkL k al.length) ∧ (True) from ⟨(by first | omega | exact ext_at (by rw [hy0, mkL_len]) (fun j hj => by rw [hy1 j (by omega), mkL_at (by omega)])), (by first | omega | exact ext_at (by rw [hy0, mkL_len]) (fun j hj => by rw [hy1 j (by omega), mkL_at (by omega)])), trivial⟩) (⟨.inl rfl, trivial⟩) (I k') (by kernel_rfl) (.inl rfl) (fun _ => rfl) (fun _ => trivial)
  obtain ⟨⟨v, al'⟩, ⟨hh0, hh1, _⟩, hc⟩ := hh
  exact ⟨v, al', hh0, hh1, hc⟩

theorem markRow7412_ok (al : List Feat) (alN : Nat) (alm : Nat → Nat) (alg : Nat → Nat → List AV) (alp : Nat) (k : Int) (hk : 0 ≤ k ∧ k ≤ 100000000 ∧ al.length ≤ 2000000 ∧ alp < alN) : ∃ (v : Int) (al' : List Feat), (v = k + 3 * (al.length : Int)) ∧ (al' = mkL k al.length) ∧ CallOK Tryz.prog 24 [.row 7412 alp, I k] (lookO [(7412, .fam alN 3 (famUp alp al.length alm) (famUpF alp (fFeat al) alg))]) true (I v) (lookO [(7412, .fam alN 3 (famUp alp al'.length alm) (famUpF alp (fFeat al') alg))]) := by
  have hh : ∃ r : Int × (List Feat), ((r.1 = k + 3 * (al.length : Int)) ∧ (r.2 = mkL k al.length) ∧ (True)) ∧ CallOK Tryz.prog 24 [.row 7412 alp, I k] (lookO [(7412, .fam alN 3 (famUp alp al.length alm) (famUpF alp (fFeat al) alg))]) true (I r.1) (lookO [(7412, .fam alN 3 (famUp alp r.2.length alm) (famUpF alp (fFeat r.2) alg))]) := by
    refine fn_okX (Φ := fun r : Int × (List Feat) => (r.1 = k + 3 * (al.length : Int)) ∧ (r.2 = mkL k al.length) ∧ (True)) [(7412, .fam alN 3 (famUp alp al.length alm) (famUpF alp (fFeat al) alg))] (fun r => [(7412, .fam alN 3 (famUp alp r.2.length alm) (famUpF alp (fFeat r.2) alg))]) (fn := Tryz.f24) (nt := 34) Tryz.func24 rfl rfl (args := [.row 7412 alp, I k]) rfl (allcons (.inr (by simp [tagged, taggedL])) (allcons (.inl ⟨rfl, trivial⟩) allnil)) (res := fun r => I r.1) ?_
    refine xR [] [0, 1] [7412] [.row 7412 alp, I k] [some (.fam alN 3 (famUp alp al.length alm) (famUpF alp (fFeat al) alg))] [] trivial ?_
    refine x_seq ?_
    refine xR [] [0, 1, 5] [7412] [.row 7412 alp, I k, I 0] [some (.fam alN 3 (famUp alp al.length alm) (famUpF alp (fFeat al) alg))] [] trivial ?_
    refine x_block ?_
    refine x_loop (X := Int × Int × (List Feat)) (fun x => mkS [(0, .row 7412 alp), (1, I x.1), (5, I x.2.1)] [(7412, .fam alN 3 (famUp alp x.2.2.length alm) (famUpF alp (fFeat x.2.2) alg))]) (fun x => (0 ≤ x.2.1 ∧ x.2.1 ≤ (al.length : Int)) ∧ (x.2.2.length = al.length) ∧ (x.1 = k + 3 * x.2.1) ∧ (∀ j : Nat, (j : Int) < x.2.1 → at_ x.2.2 j = ⟨k + 3 * (j : Int), k + 3 * (j : Int) + 1, k + 3 * (j : Int) + 2⟩) ∧ True) (fun x => ((al.length : Int) - x.2.1).toNat) (k, 0, al) rfl (show (0 ≤ (0 : Int) ∧ (0 : Int) ≤ (al.length : Int)) ∧ (al.length = al.length) ∧ (k = k + 3 * (0 : Int)) ∧ (∀ j : Nat, (j : Int) < (0 : Int) → at_ al j = ⟨k + 3 * (j : Int), k + 3 * (j : Int) + 1, k + 3 * (j : Int) + 2⟩) ∧ True from ⟨(by omega), (by rfl), (by omega), (by intro j hj; omega), trivial⟩) (fun x hI => ?_)
    obtain ⟨k', i, ys⟩ := x
    obtain ⟨hi0, hy0, hk1, hy1, _⟩ : (0 ≤ i ∧ i ≤ (al.length : Int)) ∧ (ys.length = al.length) ∧ (k' = k + 3 * i) ∧ (∀ j : Nat, (j : Int) < i → at_ ys j = ⟨k + 3 * (j : Int), k + 3 * (j : Int) + 1, k + 3 * (j : Int) + 2⟩) ∧ True := hI
    show XW _ _ _ _ (mkS [(0, .row 7412 alp), (1, I k'), (5, I i)] [(7412, .fam alN 3 (famUp alp ys.length alm) (famUpF alp (fFeat ys) alg))]) _ _
    refine x_seq ?_
    refine x_seq ?_
    by_cases h1 : i < ((famUp alp ys.length alm alp) : Int)
    ·have hq := h1
     rw [famUp_at] at hq
     have hi : i.toNat < al.length := by omega
     have hiy : i.toNat < ys.length := by omega
     refine x_r [(3, .dec true)] [0, 1, 5, 9] [7412] [.row 7412 alp, I k', I i, Bv true] [some (.fam alN 3 (famUp alp ys.length alm) (famUpF alp (fFeat ys) alg))] [alp < alN, i < ((famUp alp ys.length alm alp) : Int)] ⟨(by omega), h1, trivial⟩ ?_
     refine xe_then ?_
     refine x_true rfl ?_
     refine x_skip ?_
     refine xe_then ?_
     refine x_seq ?_
     refine x_block ?_
     refine xR [] [0, 1, 5] [7412] [.row 7412 alp, I k', I i] [some (.fam alN 3 (famUp alp ys.length alm) (fun q => bif Nat.beq q alp then (fun q => bif Nat.beq q i.toNat then spl ((famUpF alp (fFeat ys) alg) alp i.toNat) 0 [I k'] else (famUpF alp (fFeat ys) alg) alp q) else (famUpF alp (fFeat ys) alg) q))] [alp < alN ∧ (0 : Int) ≤ i ∧ i < ((famUp alp ys.length alm alp) : Int), alp < alN ∧ i.toNat < (famUp alp ys.length alm alp)] ⟨⟨(by omega), (by omega), (by (try simp only [List.length_set, famUp_at]); omega)⟩, ⟨(by omega), (by (try simp only [List.length_set, famUp_at]); omega)⟩, trivial⟩ ?_
     refine x_seq ?_
     refine x_weak [] (T := [(0, .row 7412 alp), (1, I k'), (5, I i)]) (O := [(7412, .fam alN 3 (famUp alp (ys.set i.toNat (Feat.mk k' ((at_ ys i.toNat).Y) ((at_ ys i.toNat).D))).length alm) (famUpF alp (fFeat (ys.set i.toNat (Feat.mk k' ((at_ ys i.toNat).Y) ((at_ ys i.toNat).D)))) alg))]) rfl (⟨.inl rfl, .inl rfl, .inl rfl, trivial⟩) (⟨.inr (fgsetFeat ((by omega)) rfl), trivial⟩) ?_
     refine x_r [] [0, 1, 5] [7412] [.row 7412 alp, I (k' + 1), I i] [some (.fam alN 3 (famUp alp (ys.set i.toNat (Feat.mk k' ((at_ ys i.toNat).Y) ((at_ ys i.toNat).D))).length alm) (famUpF alp (fFeat (ys.set i.toNat (Feat.mk k' ((at_ ys i.toNat).Y) ((at_ ys i.toNat).D)))) alg))] [inR .i64 (k' + 1)] ⟨(inR_i64 (by omega) (by omega)), trivial⟩ ?_
     refine xe_then ?_
     refine xR [] [0, 1, 5] [7412] [.row 7412 alp, I (k' + 1), I i] [some (.fam alN 3 (famUp alp (ys.set i.toNat (Feat.mk k' ((at_ ys i.toNat).Y) ((at_ ys i.toNat).D))).length alm) (fun q => bif Nat.beq q alp then (fun q => bif Nat.beq q i.toNat then spl ((famUpF alp (fFeat (ys.set i.toNat (Feat.mk k' ((at_ ys i.toNat).Y) ((at_ ys i.toNat).D)))) alg) alp i.toNat) 1 [I (k' + 1)] else (famUpF alp (fFeat (ys.set i.toNat (Feat.mk k' ((at_ ys i.toNat).Y) ((at_ ys i.toNat).D)))) alg) alp q) else (famUpF alp (fFeat (ys.set i.toNat (Feat.mk k' ((at_ ys i.toNat).Y) ((at_ ys i.toNat).D)))) alg) q))] [alp < alN ∧ (0 : Int) ≤ i ∧ i < ((famUp alp (ys.set i.toNat (Feat.mk k' ((at_ ys i.toNat).Y) ((at_ ys i.toNat).D))).length alm alp) : Int), alp < alN ∧ i.toNat < (famUp alp (ys.set i.toNat (Feat.mk k' ((at_ ys i.toNat).Y) ((at_ ys i.toNat).D))).length alm alp)] ⟨⟨(by omega), (by omega), (by (try simp only [List.length_set, famUp_at]); omega)⟩, ⟨(by omega), (by (try simp only [List.length_set, famUp_at]); omega)⟩, trivial⟩ ?_
     refine x_seq ?_
     refine x_weak [] (T := [(0, .row 7412 alp), (1, I (k' + 1)), (5, I i)]) (O := [(7412, .fam alN 3 (famUp alp ((ys.set i.toNat (Feat.mk k' ((at_ ys i.toNat).Y) ((at_ ys i.toNat).D))).set i.toNat (Feat.mk ((at_ (ys.set i.toNat (Feat.mk k' ((at_ ys i.toNat).Y) ((at_ ys i.toNat).D))) i.toNat).X) (k' + 1) ((at_ (ys.set i.toNat (Feat.mk k' ((at_ ys i.toNat).Y) ((at_ ys i.toNat).D))) i.toNat).D))).length alm) (famUpF alp (fFeat ((ys.set i.toNat (Feat.mk k' ((at_ ys i.toNat).Y) ((at_ ys i.toNat).D))).set i.toNat (Feat.mk ((at_ (ys.set i.toNat (Feat.mk k' ((at_ ys i.toNat).Y) ((at_ ys i.toNat).D))) i.toNat).X) (k' + 1) ((at_ (ys.set i.toNat (Feat.mk k' ((at_ ys i.toNat).Y) ((at_ ys i.toNat).D))) i.toNat).D)))) alg))]) rfl (⟨.inl rfl, .inl rfl, .inl rfl, trivial⟩) (⟨.inr (fgsetFeat ((by (try simp only [List.length_set, famUp_at]); omega)) rfl), trivial⟩) ?_
     refine x_r [] [0, 1, 5] [7412] [.row 7412 alp, I ((k' + 1) + 1), I i] [some (.fam alN 3 (famUp alp ((ys.set i.toNat (Feat.mk k' ((at_ ys i.toNat).Y) ((at_ ys i.toNat).D))).set i.toNat (Feat.mk ((at_ (ys.set i.toNat (Feat.mk k' ((at_ ys i.toNat).Y) ((at_ ys i.toNat).D))) i.toNat).X) (k' + 1) ((at_ (ys.set i.toNat (Feat.mk k' ((at_ ys i.toNat).Y) ((at_ ys i.toNat).D))) i.toNat).D))).length alm) (famUpF alp (fFeat ((ys.set i.toNat (Feat.mk k' ((at_ ys i.toNat).Y) ((at_ ys i.toNat).D))).set i.toNat (Feat.mk ((at_ (ys.set i.toNat (Feat.mk k' ((at_ ys i.toNat).Y) ((at_ ys i.toNat).D))) i.toNat).X) (k' + 1) ((at_ (ys.set i.toNat (Feat.mk k' ((at_ ys i.toNat).Y) ((at_ ys i.toNat).D))) i.toNat).D)))) alg))] [inR .i64 ((k' + 1) + 1)] ⟨(inR_i64 (by omega) (by omega)), trivial⟩ ?_
     refine xe_then ?_
     refine xR [] [0, 1, 5] [7412] [.row 7412 alp, I ((k' + 1) + 1), I i] [some (.fam alN 3 (famUp alp ((ys.set i.toNat (Feat.mk k' ((at_ ys i.toNat).Y) ((at_ ys i.toNat).D))).set i.toNat (Feat.mk ((at_ (ys.set i.toNat (Feat.mk k' ((at_ ys i.toNat).Y) ((at_ ys i.toNat).D))) i.toNat).X) (k' + 1) ((at_ (ys.set i.toNat (Feat.mk k' ((at_ ys i.toNat).Y) ((at_ ys i.toNat).D))) i.toNat).D))).length alm) (fun q => bif Nat.beq q alp then (fun q => bif Nat.beq q i.toNat then spl ((famUpF alp (fFeat ((ys.set i.toNat (Feat.mk k' ((at_ ys i.toNat).Y) ((at_ ys i.toNat).D))).set i.toNat (Feat.mk ((at_ (ys.set i.toNat (Feat.mk k' ((at_ ys i.toNat).Y) ((at_ ys i.toNat).D))) i.toNat).X) (k' + 1) ((at_ (ys.set i.toNat (Feat.mk k' ((at_ ys i.toNat).Y) ((at_ ys i.toNat).D))) i.toNat).D)))) alg) alp i.toNat) 2 [I ((k' + 1) + 1)] else (famUpF alp (fFeat ((ys.set i.toNat (Feat.mk k' ((at_ ys i.toNat).Y) ((at_ ys i.toNat).D))).set i.toNat (Feat.mk ((at_ (ys.set i.toNat (Feat.mk k' ((at_ ys i.toNat).Y) ((at_ ys i.toNat).D))) i.toNat).X) (k' + 1) ((at_ (ys.set i.toNat (Feat.mk k' ((at_ ys i.toNat).Y) ((at_ ys i.toNat).D))) i.toNat).D)))) alg) alp q) else (famUpF alp (fFeat ((ys.set i.toNat (Feat.mk k' ((at_ ys i.toNat).Y) ((at_ ys i.toNat).D))).set i.toNat (Feat.mk ((at_ (ys.set i.toNat (Feat.mk k' ((at_ ys i.toNat).Y) ((at_ ys i.toNat).D))) i.toNat).X) (k' + 1) ((at_ (ys.set i.toNat (Feat.mk k' ((at_ ys i.toNat).Y) ((at_ ys i.toNat).D))) i.toNat).D)))) alg) q))] [alp < alN ∧ (0 : Int) ≤ i ∧ i < ((famUp alp ((ys.set i.toNat (Feat.mk k' ((at_ ys i.toNat).Y) ((at_ ys i.toNat).D))).set i.toNat (Feat.mk ((at_ (ys.set i.toNat (Feat.mk k' ((at_ ys i.toNat).Y) ((at_ ys i.toNat).D))) i.toNat).X) (k' + 1) ((at_ (ys.set i.toNat (Feat.mk k' ((at_ ys i.toNat).Y) ((at_ ys i.toNat).D))) i.toNat).D))).length alm alp) : Int), alp < alN ∧ i.toNat < (famUp alp ((ys.set i.toNat (Feat.mk k' ((at_ ys i.toNat).Y) ((at_ ys i.toNat).D))).set i.toNat (Feat.mk ((at_ (ys.set i.toNat (Feat.mk k' ((at_ ys i.toNat).Y) ((at_ ys i.toNat).D))) i.toNat).X) (k' + 1) ((at_ (ys.set i.toNat (Feat.mk k' ((at_ ys i.toNat).Y) ((at_ ys i.toNat).D))) i.toNat).D))).length alm alp)] ⟨⟨(by omega), (by omega), (by (try simp only [List.length_set, famUp_at]); omega)⟩, ⟨(by omega), (by (try simp only [List.length_set, famUp_at]); omega)⟩, trivial⟩ ?_
     refine x_weak [] (T := [(0, .row 7412 alp), (1, I ((k' + 1) + 1)), (5, I i)]) (O := [(7412, .fam alN 3 (famUp alp (((ys.set i.toNat (Feat.mk k' ((at_ ys i.toNat).Y) ((at_ ys i.toNat).D))).set i.toNat (Feat.mk ((at_ (ys.set i.toNat (Feat.mk k' ((at_ ys i.toNat).Y) ((at_ ys i.toNat).D))) i.toNat).X) (k' + 1) ((at_ (ys.set i.toNat (Feat.mk k' ((at_ ys i.toNat).Y) ((at_ ys i.toNat).D))) i.toNat).D))).set i.toNat (Feat.mk ((at_ ((ys.set i.toNat (Feat.mk k' ((at_ ys i.toNat).Y) ((at_ ys i.toNat).D))).set i.toNat (Feat.mk ((at_ (ys.set i.toNat (Feat.mk k' ((at_ ys i.toNat).Y) ((at_ ys i.toNat).D))) i.toNat).X) (k' + 1) ((at_ (ys.set i.toNat (Feat.mk k' ((at_ ys i.toNat).Y) ((at_ ys i.toNat).D))) i.toNat).D))) i.toNat).X) ((at_ ((ys.set i.toNat (Feat.mk k' ((at_ ys i.toNat).Y) ((at_ ys i.toNat).D))).set i.toNat (Feat.mk ((at_ (ys.set i.toNat (Feat.mk k' ((at_ ys i.toNat).Y) ((at_ ys i.toNat).D))) i.toNat).X) (k' + 1) ((at_ (ys.set i.toNat (Feat.mk k' ((at_ ys i.toNat).Y) ((at_ ys i.toNat).D))) i.toNat).D))) i.toNat).Y) ((k' + 1) + 1))).length alm) (famUpF alp (fFeat (((ys.set i.toNat (Feat.mk k' ((at_ ys i.toNat).Y) ((at_ ys i.toNat).D))).set i.toNat (Feat.mk ((at_ (ys.set i.toNat (Feat.mk k' ((at_ ys i.toNat).Y) ((at_ ys i.toNat).D))) i.toNat).X) (k' + 1) ((at_ (ys.set i.toNat (Feat.mk k' ((at_ ys i.toNat).Y) ((at_ ys i.toNat).D))) i.toNat).D))).set i.toNat (Feat.mk ((at_ ((ys.set i.toNat (Feat.mk k' ((at_ ys i.toNat).Y) ((at_ ys i.toNat).D))).set i.toNat (Feat.mk ((at_ (ys.set i.toNat (Feat.mk k' ((at_ ys i.toNat).Y) ((at_ ys i.toNat).D))) i.toNat).X) (k' + 1) ((at_ (ys.set i.toNat (Feat.mk k' ((at_ ys i.toNat).Y) ((at_ ys i.toNat).D))) i.toNat).D))) i.toNat).X) ((at_ ((ys.set i.toNat (Feat.mk k' ((at_ ys i.toNat).Y) ((at_ ys i.toNat).D))).set i.toNat (Feat.mk ((at_ (ys.set i.toNat (Feat.mk k' ((at_ ys i.toNat).Y) ((at_ ys i.toNat).D))) i.toNat).X) (k' + 1) ((at_ (ys.set i.toNat (Feat.mk k' ((at_ ys i.toNat).Y) ((at_ ys i.toNat).D))) i.toNat).D))) i.toNat).Y) ((k' + 1) + 1)))) alg))]) rfl (⟨.inl rfl, .inl rfl, .inl rfl, trivial⟩) (⟨.inr (fgsetFeat ((by (try simp only [List.length_set, famUp_at]); omega)) rfl), trivial⟩) ?_
     refine x_r [] [0, 1, 5] [7412] [.row 7412 alp, I (((k' + 1) + 1) + 1), I i] [some (.fam alN 3 (famUp alp (((ys.set i.toNat (Feat.mk k' ((at_ ys i.toNat).Y) ((at_ ys i.toNat).D))).set i.toNat (Feat.mk ((at_ (ys.set i.toNat (Feat.mk k' ((at_ ys i.toNat).Y) ((at_ ys i.toNat).D))) i.toNat).X) (k' + 1) ((at_ (ys.set i.toNat (Feat.mk k' ((at_ ys i.toNat).Y) ((at_ ys i.toNat).D))) i.toNat).D))).set i.toNat (Feat.mk ((at_ ((ys.set i.toNat (Feat.mk k' ((at_ ys i.toNat).Y) ((at_ ys i.toNat).D))).set i.toNat (Feat.mk ((at_ (ys.set i.toNat (Feat.mk k' ((at_ ys i.toNat).Y) ((at_ ys i.toNat).D))) i.toNat).X) (k' + 1) ((at_ (ys.set i.toNat (Feat.mk k' ((at_ ys i.toNat).Y) ((at_ ys i.toNat).D))) i.toNat).D))) i.toNat).X) ((at_ ((ys.set i.toNat (Feat.mk k' ((at_ ys i.toNat).Y) ((at_ ys i.toNat).D))).set i.toNat (Feat.mk ((at_ (ys.set i.toNat (Feat.mk k' ((at_ ys i.toNat).Y) ((at_ ys i.toNat).D))) i.toNat).X) (k' + 1) ((at_ (ys.set i.toNat (Feat.mk k' ((at_ ys i.toNat).Y) ((at_ ys i.toNat).D))) i.toNat).D))) i.toNat).Y) ((k' + 1) + 1))).length alm) (famUpF alp (fFeat (((ys.set i.toNat (Feat.mk k' ((at_ ys i.toNat).Y) ((at_ ys i.toNat).D))).set i.toNat (Feat.mk ((at_ (ys.set i.toNat (Feat.mk k' ((at_ ys i.toNat).Y) ((at_ ys i.toNat).D))) i.toNat).X) (k' + 1) ((at_ (ys.set i.toNat (Feat.mk k' ((at_ ys i.toNat).Y) ((at_ ys i.toNat).D))) i.toNat).D))).set i.toNat (Feat.mk ((at_ ((ys.set i.toNat (Feat.mk k' ((at_ ys i.toNat).Y) ((at_ ys i.toNat).D))).set i.toNat (Feat.mk ((at_ (ys.set i.toNat (Feat.mk k' ((at_ ys i.toNat).Y) ((at_ ys i.toNat).D))) i.toNat).X) (k' + 1) ((at_ (ys.set i.toNat (Feat.mk k' ((at_ ys i.toNat).Y) ((at_ ys i.toNat).D))) i.toNat).D))) i.toNat).X) ((at_ ((ys.set i.toNat (Feat.mk k' ((at_ ys i.toNat).Y) ((at_ ys i.toNat).D))).set i.toNat (Feat.mk ((at_ (ys.set i.toNat (Feat.mk k' ((at_ ys i.toNat).Y) ((at_ ys i.toNat).D))) i.toNat).X) (k' + 1) ((at_ (ys.set i.toNat (Feat.mk k' ((at_ ys i.toNat).Y) ((at_ ys i.toNat).D))) i.toNat).D))) i.toNat).Y) ((k' + 1) + 1)))) alg))] [inR .i64 (((k' + 1) + 1) + 1)] ⟨(inR_i64 (by omega) (by omega)), trivial⟩ ?_
     refine xe_block 1 ?_
     refine xe_then ?_
     refine x_r [] [0, 1, 5] [7412] [.row 7412 alp, I (((k' + 1) + 1) + 1), I (i + 1)] [some (.fam alN 3 (famUp alp (((ys.set i.toNat (Feat.mk k' ((at_ ys i.toNat).Y) ((at_ ys i.toNat).D))).set i.toNat (Feat.mk ((at_ (ys.set i.toNat (Feat.mk k' ((at_ ys i.toNat).Y) ((at_ ys i.toNat).D))) i.toNat).X) (k' + 1) ((at_ (ys.set i.toNat (Feat.mk k' ((at_ ys i.toNat).Y) ((at_ ys i.toNat).D))) i.toNat).D))).set i.toNat (Feat.mk ((at_ ((ys.set i.toNat (Feat.mk k' ((at_ ys i.toNat).Y) ((at_ ys i.toNat).D))).set i.toNat (Feat.mk ((at_ (ys.set i.toNat (Feat.mk k' ((at_ ys i.toNat).Y) ((at_ ys i.toNat).D))) i.toNat).X) (k' + 1) ((at_ (ys.set i.toNat (Feat.mk k' ((at_ ys i.toNat).Y) ((at_ ys i.toNat).D))) i.toNat).D))) i.toNat).X) ((at_ ((ys.set i.toNat (Feat.mk k' ((at_ ys i.toNat).Y) ((at_ ys i.toNat).D))).set i.toNat (Feat.mk ((at_ (ys.set i.toNat (Feat.mk k' ((at_ ys i.toNat).Y) ((at_ ys i.toNat).D))) i.toNat).X) (k' + 1) ((at_ (ys.set i.toNat (Feat.mk k' ((at_ ys i.toNat).Y) ((at_ ys i.toNat).D))) i.toNat).D))) i.toNat).Y) ((k' + 1) + 1))).length alm) (famUpF alp (fFeat (((ys.set i.toNat (Feat.mk k' ((at_ ys i.toNat).Y) ((at_ ys i.toNat).D))).set i.toNat (Feat.mk ((at_ (ys.set i.toNat (Feat.mk k' ((at_ ys i.toNat).Y) ((at_ ys i.toNat).D))) i.toNat).X) (k' + 1) ((at_ (ys.set i.toNat (Feat.mk k' ((at_ ys i.toNat).Y) ((at_ ys i.toNat).D))) i.toNat).D))).set i.toNat (Feat.mk ((at_ ((ys.set i.toNat (Feat.mk k' ((at_ ys i.toNat).Y) ((at_ ys i.toNat).D))).set i.toNat (Feat.mk ((at_ (ys.set i.toNat (Feat.mk k' ((at_ ys i.toNat).Y) ((at_ ys i.toNat).D))) i.toNat).X) (k' + 1) ((at_ (ys.set i.toNat (Feat.mk k' ((at_ ys i.toNat).Y) ((at_ ys i.toNat).D))) i.toNat).D))) i.toNat).X) ((at_ ((ys.set i.toNat (Feat.mk k' ((at_ ys i.toNat).Y) ((at_ ys i.toNat).D))).set i.toNat (Feat.mk ((at_ (ys.set i.toNat (Feat.mk k' ((at_ ys i.toNat).Y) ((at_ ys i.toNat).D))) i.toNat).X) (k' + 1) ((at_ (ys.set i.toNat (Feat.mk k' ((at_ ys i.toNat).Y) ((at_ ys i.toNat).D))) i.toNat).D))) i.toNat).Y) ((k' + 1) + 1)))) alg))] [inR .i64 (i + 1)] ⟨(inR_i64 (by omega) (by omega)), trivial⟩ ?_
     exact xe_again ((((k' + 1) + 1) + 1), (i + 1), (((ys.set i.toNat (Feat.mk k' ((at_ ys i.toNat).Y) ((at_ ys i.toNat).D))).set i.toNat (Feat.mk ((at_ (ys.set i.toNat (Feat.mk k' ((at_ ys i.toNat).Y) ((at_ ys i.toNat).D))) i.toNat).X) (k' + 1) ((at_ (ys.set i.toNat (Feat.mk k' ((at_ ys i.toNat).Y) ((at_ ys i.toNat).D))) i.toNat).D))).set i.toNat (Feat.mk ((at_ ((ys.set i.toNat (Feat.mk k' ((at_ ys i.toNat).Y) ((at_ ys i.toNat).D))).set i.toNat (Feat.mk ((at_ (ys.set i.toNat (Feat.mk k' ((at_ ys i.toNat).Y) ((at_ ys i.toNat).D))) i.toNat).X) (k' + 1) ((at_ (ys.set i.toNat (Feat.mk k' ((at_ ys i.toNat).Y) ((at_ ys i.toNat).D))) i.toNat).D))) i.toNat).X) ((at_ ((ys.set i.toNat (Feat.mk k' ((at_ ys i.toNat).Y) ((at_ ys i.toNat).D))).set i.toNat (Feat.mk ((at_ (ys.set i.toNat (Feat.mk k' ((at_ ys i.toNat).Y) ((at_ ys i.toNat).D))) i.toNat).X) (k' + 1) ((at_ (ys.set i.toNat (Feat.mk k' ((at_ ys i.toNat).Y) ((at_ ys i.toNat).D))) i.toNat).D))) i.toNat).Y) ((k' + 1) + 1)))) rfl (show (0 ≤ (i + 1) ∧ (i + 1) ≤ (al.length : Int)) ∧ ((((ys.set i.toNat (Feat.mk k' ((at_ ys i.toNat).Y) ((at_ ys i.toNat).D))).set i.toNat (Feat.mk ((at_ (ys.set i.toNat (Feat.mk k' ((at_ ys i.toNat).Y) ((at_ ys i.toNat).D))) i.toNat).X) (k' + 1) ((at_ (ys.set i.toNat (Feat.mk k' ((at_ ys i.toNat).Y) ((at_ ys i.toNat).D))) i.toNat).D))).set i.toNat (Feat.mk ((at_ ((ys.set i.toNat (Feat.mk k' ((at_ ys i.toNat).Y) ((at_ ys i.toNat).D))).set i.toNat (Feat.mk ((at_ (ys.set i.toNat (Feat.mk k' ((at_ ys i.toNat).Y) ((at_ ys i.toNat).D))) i.toNat).X) (k' + 1) ((at_ (ys.set i.toNat (Feat.mk k' ((at_ ys i.toNat).Y) ((at_ ys i.toNat).D))) i.toNat).D))) i.toNat).X) ((at_ ((ys.set i.toNat (Feat.mk k' ((at_ ys i.toNat).Y) ((at_ ys i.toNat).D))).set i.toNat (Feat.mk ((at_ (ys.set i.toNat (Feat.mk k' ((at_ ys i.toNat).Y) ((at_ ys i.toNat).D))) i.toNat).X) (k' + 1) ((at_ (ys.set i.toNat (Feat.mk k' ((at_ ys i.toNat).Y) ((at_ ys i.toNat).D))) i.toNat).D))) i.toNat).Y) ((k' + 1) + 1))).length = al.length) ∧ ((((k' + 1) + 1) + 1) = k + 3 * (i + 1)) ∧ (∀ j : Nat, (j : Int) < (i + 1) → at_ (((ys.set i.toNat (Feat.mk k' ((at_ ys i.toNat).Y) ((at_ ys i.toNat).D))).set i.toNat (Feat.mk ((at_ (ys.set i.toNat (Feat.mk k' ((at_ ys i.toNat).Y) ((at_ ys i.toNat).D))) i.toNat).X) (k' + 1) ((at_ (ys.set i.toNat (Feat.mk k' ((at_ ys i.toNat).Y) ((at_ ys i.toNat).D))) i.toNat).D))).set i.toNat (Feat.mk ((at_ ((ys.set i.toNat (Feat.mk k' ((at_ ys i.toNat).Y) ((at_ ys i.toNat).D))).set i.toNat (Feat.mk ((at_ (ys.set i.toNat (Feat.mk k' ((at_ ys i.toNat).Y) ((at_ ys i.toNat).D))) i.toNat).X) (k' + 1) ((at_ (ys.set i.toNat (Feat.mk k' ((at_ ys i.toNat).Y) ((at_ ys i.toNat).D))) i.toNat).D))) i.toNat).X) ((at_ ((ys.set i.toNat (Feat.mk k' ((at_ ys i.toNat).Y) ((at_ ys i.toNat).D))).set i.toNat (Feat.mk ((at_ (ys.set i.toNat (Feat.mk k' ((at_ ys i.toNat).Y) ((at_ ys i.toNat).D))) i.toNat).X) (k' + 1) ((at_ (ys.set i.toNat (Feat.mk k' ((at_ ys i.toNat).Y) ((at_ ys i.toNat).D))) i.toNat).D))) i.toNat).Y) ((k' + 1) + 1))) j = ⟨k + 3 * (j : Int), k + 3 * (j : Int) + 1, k + 3 * (j : Int) + 2⟩) ∧ True from ⟨(by omega), (by simp; omega), (by omega), (by simp only [List.set_set, at_setQ hiy]; exact mk_next hi0.1 hiy hy1 (by simp only [Feat.mk.injEq]; omega)), trivial⟩) (by first | (show (((al.length : Int) - (i + 1)).toNat : Nat) < ((al.length : Int) - i).toNat; omega) | (dsimp only; omega))
    have hq := h1
    rw [famUp_at] at hq
    refine x_r [(3, .dec false)] [0, 1, 5, 9] [7412] [.row 7412 alp, I k', I i, Bv false] [some (.fam alN 3 (famUp alp ys.length alm) (famUpF alp (fFeat ys) alg))] [alp < alN, ¬ (i < ((famUp alp ys.length alm alp) : Int))] ⟨(by omega), h1, trivial⟩ ?_
    refine xe_then ?_
    refine x_false rfl ?_
    refine x_exit ?_
    refine xe_exit_then ?_
    refine xe_loop_exit ?_
    refine xe_exit_same ?_
    refine xe_then ?_
    refine xR [] [4] [7412] [I k'] [some (.fam alN 3 (famUp alp ys.length alm) (famUpF alp (fFeat ys) alg))] [] trivial ?_
    refine x_ret ?_
    refine xe_end (k', ys) (show (k' = k + 3 * (al.length : Int)) ∧ (ys = mkL k al.length) ∧ (True) from ⟨(by first | omega | exact ext_at (by rw [hy0, mkL_len]) (fun j hj => by rw [hy1 j (by omega), mkL_at (by omega)])), (by first | omega | exact ext_at (by rw [hy0, mkL_len]) (fun j hj => by rw [hy1 j (by omega), mkL_at (by omega)])), trivial⟩) (⟨.inl rfl, trivial⟩) (I k') (by kernel_rfl) (.inl rfl) (fun _ => rfl) (fun _ => trivial)
  obtain ⟨⟨v, al'⟩, ⟨hh0, hh1, _⟩, hc⟩ := hh
  exact ⟨v, al', hh0, hh1, hc⟩


-- laws.markTrainedS
theorem markTrainedS_ok (al : List Trained) (k : Int) (hk : 0 ≤ k ∧ nRs k al ≤ 4000000) : ∃ (v : Int) (al' : List Trained), (v = nRs k al) ∧ (al' = mRs k al) ∧ CallOK Tryz.prog 57 [.arr 7401, I k] (lookO [(7401, tOTrained 7411 7412 al), (7411, tFTrainedBase al), (7412, tFTrainedFeats al)]) true (I v) (lookO [(7401, tOTrained 7411 7412 al'), (7411, tFTrainedBase al'), (7412, tFTrainedFeats al')]) := by
  have hb0 := nRs_lo al k
  have hh : ∃ r : Int × (List Trained), ((r.1 = nRs k al) ∧ (r.2 = mRs k al) ∧ (True)) ∧ CallOK Tryz.prog 57 [.arr 7401, I k] (lookO [(7401, tOTrained 7411 7412 al), (7411, tFTrainedBase al), (7412, tFTrainedFeats al)]) true (I r.1) (lookO [(7401, tOTrained 7411 7412 r.2), (7411, tFTrainedBase r.2), (7412, tFTrainedFeats r.2)]) := by
    refine fn_okX (Φ := fun r : Int × (List Trained) => (r.1 = nRs k al) ∧ (r.2 = mRs k al) ∧ (True)) [(7401, tOTrained 7411 7412 al), (7411, tFTrainedBase al), (7412, tFTrainedFeats al)] (fun r => [(7401, tOTrained 7411 7412 r.2), (7411, tFTrainedBase r.2), (7412, tFTrainedFeats r.2)]) (fn := Tryz.f57) (nt := 42) Tryz.func57 rfl rfl (args := [.arr 7401, I k]) rfl (allcons (.inr trivial) (allcons (.inl ⟨rfl, trivial⟩) allnil)) (res := fun r => I r.1) ?_
    refine xR [] [0, 1] [7401, 7411, 7412] [.arr 7401, I k] [some (tOTrained 7411 7412 al), some (tFTrainedBase al), some (tFTrainedFeats al)] [] trivial ?_
    refine x_seq ?_
    refine xR [] [0, 1, 5] [7401, 7411, 7412] [.arr 7401, I k, I 0] [some (tOTrained 7411 7412 al), some (tFTrainedBase al), some (tFTrainedFeats al)] [] trivial ?_
    refine x_block ?_
    refine x_loop (X := Int × Int × (List Trained)) (fun x => mkS [(0, .arr 7401), (1, I x.1), (5, I x.2.1)] [(7401, tOTrained 7411 7412 x.2.2), (7411, tFTrainedBase x.2.2), (7412, tFTrainedFeats x.2.2)]) (fun x => (0 ≤ x.2.1 ∧ x.2.1 ≤ (al.length : Int)) ∧ (x.2.2 = mRs k (al.take x.2.1.toNat) ++ al.drop x.2.1.toNat) ∧ (x.1 = nRs k (al.take x.2.1.toNat)) ∧ True) (fun x => ((al.length : Int) - x.2.1).toNat) (k, 0, al) rfl (show (0 ≤ (0 : Int) ∧ (0 : Int) ≤ (al.length : Int)) ∧ (al = mRs k (al.take (0 : Int).toNat) ++ al.drop (0 : Int).toNat) ∧ (k = nRs k (al.take (0 : Int).toNat)) ∧ True from ⟨(by omega), (by rfl), (by rfl), trivial⟩) (fun x hI => ?_)
    obtain ⟨k', i, bl⟩ := x
    obtain ⟨hi0, hy0, hk1, _⟩ : (0 ≤ i ∧ i ≤ (al.length : Int)) ∧ (bl = mRs k (al.take i.toNat) ++ al.drop i.toNat) ∧ (k' = nRs k (al.take i.toNat)) ∧ True := hI
    show XW _ _ _ _ (mkS [(0, .arr 7401), (1, I k'), (5, I i)] [(7401, tOTrained 7411 7412 bl), (7411, tFTrainedBase bl), (7412, tFTrainedFeats bl)]) _ _
    refine x_seq ?_
    refine x_seq ?_
    by_cases h1 : i < (bl.length : Int)
    ·have hpl : (mRs k (al.take i.toNat)).length = i.toNat := by rw [mRs_len]; simp; omega
     have hl : bl.length = al.length := by rw [hy0]; exact mid_len hpl (by omega)
     have hi : i.toNat < al.length := by omega
     have hib : i.toNat < bl.length := by omega
     have hat : at_ bl i.toNat = at_ al i.toNat := by rw [hy0]; exact mid_at hpl
     have hbd := nRs_lo (al.take i.toNat) k
     have hmid := nRs_mid hi k
     unfold nTr at hmid
     refine x_r [(3, .dec true)] [0, 1, 5, 9] [7401, 7411, 7412] [.arr 7401, I k', I i, Bv true] [some (tOTrained 7411 7412 bl), some (tFTrainedBase bl), some (tFTrainedFeats bl)] [i < (bl.length : Int)] ⟨h1, trivial⟩ ?_
     refine xe_then ?_
     refine x_true rfl ?_
     refine x_skip ?_
     refine xe_then ?_
     refine x_seq ?_
     refine x_block ?_
     refine xR [(3, .call [(true, .any)] true (Sv (mkTx k')))] [0, 1, 5] [7401, 7411, 7412] [.arr 7401, I k', I i] [some (.oar [7411, 7412] 4 bl.length (fun q => bif Nat.beq q i.toNat then [Sv (mkTx k'), .row 7411 i.toNat, .row 7412 i.toNat, I ((at_ bl i.toNat).Count)] else (oTrained 7411 7412 bl) q)), some (tFTrainedBase bl), some (tFTrainedFeats bl)] [Con Tryz.prog 92 [I k'] true (Sv (mkTx k')) ∧ True, (0 : Int) ≤ i ∧ i < (bl.length : Int), i.toNat < bl.length] ⟨⟨(markText_ok k' (by omega)), trivial⟩, ⟨(by omega), (by omega)⟩, (by omega), trivial⟩ ?_
     refine x_seq ?_
     refine x_weak [] (T := [(0, .arr 7401), (1, I k'), (5, I i)]) (O := [(7401, tOTrained 7411 7412 (bl.set i.toNat (Trained.mk (mkTx k') ((at_ bl i.toNat).Base) ((at_ bl i.toNat).Feats) ((at_ bl i.toNat).Count)))), (7411, tFTrainedBase (bl.set i.toNat (Trained.mk (mkTx k') ((at_ bl i.toNat).Base) ((at_ bl i.toNat).Feats) ((at_ bl i.toNat).Count)))), (7412, tFTrainedFeats (bl.set i.toNat (Trained.mk (mkTx k') ((at_ bl i.toNat).Base) ((at_ bl i.toNat).Feats) ((at_ bl i.toNat).Count))))]) rfl (⟨.inl rfl, .inl rfl, .inl rfl, trivial⟩) (⟨.inr ⟨rfl, rfl, (by simp), fun i_ hi_ => .inl (oputTrained _ _ _ i_ hi_)⟩, .inr (fsameTrainedBase (P := i.toNat) (x' := (Trained.mk (mkTx k') ((at_ bl i.toNat).Base) ((at_ bl i.toNat).Feats) ((at_ bl i.toNat).Count))) rfl), .inr (fsameTrainedFeats (P := i.toNat) (x' := (Trained.mk (mkTx k') ((at_ bl i.toNat).Base) ((at_ bl i.toNat).Feats) ((at_ bl i.toNat).Count))) rfl), trivial⟩) ?_
     generalize hb1 : (bl.set i.toNat (Trained.mk (mkTx k') ((at_ bl i.toNat).Base) ((at_ bl i.toNat).Feats) ((at_ bl i.toNat).Count))) = b1
     have hB1 : b1 = bl.set i.toNat (Trained.mk (mkTx k') (at_ al i.toNat).Base (at_ al i.toNat).Feats (at_ al i.toNat).Count) := by rw [← hb1, hat]
     have h1 : at_ b1 i.toNat = Trained.mk (mkTx k') (at_ al i.toNat).Base (at_ al i.toNat).Feats (at_ al i.toNat).Count := by rw [hB1]; exact at_setQ hib
     have hl1 : b1.length = al.length := by rw [hB1, List.length_set]; exact hl
     refine x_r [] [0, 1, 5] [7401, 7411, 7412] [.arr 7401, I (k' + 1), I i] [some (tOTrained 7411 7412 b1), some (tFTrainedBase b1), some (tFTrainedFeats b1)] [inR .i64 (k' + 1)] ⟨(inR_i64 (by omega) (by omega)), trivial⟩ ?_
     refine xe_then ?_
     refine x_seq ?_
     obtain ⟨v_1, al'_1, hx1_0, hx1_1, hc1⟩ := markRow7411_ok ((at_ b1 i.toNat).Base) b1.length (mTrainedBase b1) (gTrainedBase b1) i.toNat (k' + 1) (by simp only [h1]; omega)
     refine x_r [(6, .lend [(7411, .fam b1.length 3 (famUp i.toNat ((at_ b1 i.toNat).Base).length (mTrainedBase b1)) (famUpF i.toNat (fFeat ((at_ b1 i.toNat).Base)) (gTrainedBase b1)), .fam b1.length 3 (famUp i.toNat al'_1.length (mTrainedBase b1)) (famUpF i.toNat (fFeat al'_1) (gTrainedBase b1)))] [] [(true, .any), (true, .any)] true (I v_1))] [0, 1, 5] [7401, 7411, 7412] [.arr 7401, I v_1, I i] [some (tOTrained 7411 7412 b1), some (.fam b1.length 3 (famUp i.toNat al'_1.length (mTrainedBase b1)) (famUpF i.toNat (fFeat al'_1) (gTrainedBase b1))), some (tFTrainedFeats b1)] [(0 : Int) ≤ i ∧ i < (b1.length : Int), i.toNat < b1.length, CallOK Tryz.prog 24 [.row 7411 i.toNat, I (k' + 1)] (lookO [(7411, .fam b1.length 3 (famUp i.toNat ((at_ b1 i.toNat).Base).length (mTrainedBase b1)) (famUpF i.toNat (fFeat ((at_ b1 i.toNat).Base)) (gTrainedBase b1)))]) true (I v_1) (lookO [(7411, .fam b1.length 3 (famUp i.toNat al'_1.length (mTrainedBase b1)) (famUpF i.toNat (fFeat al'_1) (gTrainedBase b1)))]) ∧ (((tFTrainedBase b1 : Ob) = .fam b1.length 3 (famUp i.toNat ((at_ b1 i.toNat).Base).length (mTrainedBase b1)) (famUpF i.toNat (fFeat ((at_ b1 i.toNat).Base)) (gTrainedBase b1)) ∨ obLe noOb true (tFTrainedBase b1) (.fam b1.length 3 (famUp i.toNat ((at_ b1 i.toNat).Base).length (mTrainedBase b1)) (famUpF i.toNat (fFeat ((at_ b1 i.toNat).Base)) (gTrainedBase b1)))) ∧ taggedO false (.fam b1.length 3 (famUp i.toNat ((at_ b1 i.toNat).Base).length (mTrainedBase b1)) (famUpF i.toNat (fFeat ((at_ b1 i.toNat).Base)) (gTrainedBase b1)))) ∧ True] ⟨⟨(by omega), (by omega)⟩, (by omega), ⟨hc1, ⟨.inr (fg_take rfl rfl), fg_tag (fun _ => tagcFeat false _) (fun _ _ => tagcFeat false _)⟩, trivial⟩, trivial⟩ ?_
     refine xe_then ?_
     refine x_seq ?_
     refine x_weak [] (T := [(0, .arr 7401), (1, I v_1), (5, I i)]) (O := [(7401, tOTrained 7411 7412 (b1.set i.toNat (Trained.withBase (at_ b1 i.toNat) al'_1))), (7411, tFTrainedBase (b1.set i.toNat (Trained.withBase (at_ b1 i.toNat) al'_1))), (7412, tFTrainedFeats (b1.set i.toNat (Trained.withBase (at_ b1 i.toNat) al'_1)))]) rfl (⟨.inl rfl, .inl rfl, .inl rfl, trivial⟩) (⟨.inr ⟨rfl, rfl, (by first | rfl | (simp; done) | omega), fun i_ hi_ => .inl (osetTrainedBase 7411 7412 i.toNat b1 al'_1 i_)⟩, .inr (fputTrainedBase ((by omega)) rfl (fun i_ _ => rfl)), .inr (fsameTrainedFeats (P := i.toNat) (x' := (Trained.withBase (at_ b1 i.toNat) al'_1)) rfl), trivial⟩) ?_
     generalize hb2 : (b1.set i.toNat (Trained.withBase (at_ b1 i.toNat) al'_1)) = b2
     have ha1 : al'_1 = mkL (k' + 1) (at_ al i.toNat).Base.length := hx1_1.trans (by rw [h1])
     have hB2 : b2 = bl.set i.toNat (Trained.mk (mkTx k') al'_1 (at_ al i.toNat).Feats (at_ al i.toNat).Count) := by rw [← hb2, h1, hB1, List.set_set]; rfl
     have h2 : at_ b2 i.toNat = Trained.mk (mkTx k') al'_1 (at_ al i.toNat).Feats (at_ al i.toNat).Count := by rw [hB2]; exact at_setQ hib
     have hl2 : b2.length = al.length := by rw [hB2, List.length_set]; exact hl
     simp only [h1] at hx1_0
     obtain ⟨v_2, al'_2, hx2_0, hx2_1, hc2⟩ := markRow7412_ok ((at_ b2 i.toNat).Feats) b2.length (mTrainedFeats b2) (gTrainedFeats b2) i.toNat v_1 (by simp only [h2]; omega)
     refine x_r [(6, .lend [(7412, .fam b2.length 3 (famUp i.toNat ((at_ b2 i.toNat).Feats).length (mTrainedFeats b2)) (famUpF i.toNat (fFeat ((at_ b2 i.toNat).Feats)) (gTrainedFeats b2)), .fam b2.length 3 (famUp i.toNat al'_2.length (mTrainedFeats b2)) (famUpF i.toNat (fFeat al'_2) (gTrainedFeats b2)))] [] [(true, .any), (true, .any)] true (I v_2))] [0, 1, 5] [7401, 7411, 7412] [.arr 7401, I v_2, I i] [some (tOTrained 7411 7412 b2), some (tFTrainedBase b2), some (.fam b2.length 3 (famUp i.toNat al'_2.length (mTrainedFeats b2)) (famUpF i.toNat (fFeat al'_2) (gTrainedFeats b2)))] [(0 : Int) ≤ i ∧ i < (b2.length : Int), i.toNat < b2.length, CallOK Tryz.prog 24 [.row 7412 i.toNat, I v_1] (lookO [(7412, .fam b2.length 3 (famUp i.toNat ((at_ b2 i.toNat).Feats).length (mTrainedFeats b2)) (famUpF i.toNat (fFeat ((at_ b2 i.toNat).Feats)) (gTrainedFeats b2)))]) true (I v_2) (lookO [(7412, .fam b2.length 3 (famUp i.toNat al'_2.length (mTrainedFeats b2)) (famUpF i.toNat (fFeat al'_2) (gTrainedFeats b2)))]) ∧ (((tFTrainedFeats b2 : Ob) = .fam b2.length 3 (famUp i.toNat ((at_ b2 i.toNat).Feats).length (mTrainedFeats b2)) (famUpF i.toNat (fFeat ((at_ b2 i.toNat).Feats)) (gTrainedFeats b2)) ∨ obLe noOb true (tFTrainedFeats b2) (.fam b2.length 3 (famUp i.toNat ((at_ b2 i.toNat).Feats).length (mTrainedFeats b2)) (famUpF i.toNat (fFeat ((at_ b2 i.toNat).Feats)) (gTrainedFeats b2)))) ∧ taggedO false (.fam b2.length 3 (famUp i.toNat ((at_ b2 i.toNat).Feats).length (mTrainedFeats b2)) (famUpF i.toNat (fFeat ((at_ b2 i.toNat).Feats)) (gTrainedFeats b2)))) ∧ True] ⟨⟨(by omega), (by omega)⟩, (by omega), ⟨hc2, ⟨.inr (fg_take rfl rfl), fg_tag (fun _ => tagcFeat false _) (fun _ _ => tagcFeat false _)⟩, trivial⟩, trivial⟩ ?_
     refine xe_then ?_
     refine x_seq ?_
     refine x_weak [] (T := [(0, .arr 7401), (1, I v_2), (5, I i)]) (O := [(7401, tOTrained 7411 7412 (b2.set i.toNat (Trained.withFeats (at_ b2 i.toNat) al'_2))), (7411, tFTrainedBase (b2.set i.toNat (Trained.withFeats (at_ b2 i.toNat) al'_2))), (7412, tFTrainedFeats (b2.set i.toNat (Trained.withFeats (at_ b2 i.toNat) al'_2)))]) rfl (⟨.inl rfl, .inl rfl, .inl rfl, trivial⟩) (⟨.inr ⟨rfl, rfl, (by first | rfl | (simp; done) | omega), fun i_ hi_ => .inl (osetTrainedFeats 7411 7412 i.toNat b2 al'_2 i_)⟩, .inr (fsameTrainedBase (P := i.toNat) (x' := (Trained.withFeats (at_ b2 i.toNat) al'_2)) rfl), .inr (fputTrainedFeats ((by omega)) rfl (fun i_ _ => rfl)), trivial⟩) ?_
     generalize hb3 : (b2.set i.toNat (Trained.withFeats (at_ b2 i.toNat) al'_2)) = b3
     have ha2 : al'_2 = mkL v_1 (at_ al i.toNat).Feats.length := hx2_1.trans (by rw [h2])
     have hB3 : b3 = bl.set i.toNat (Trained.mk (mkTx k') al'_1 al'_2 (at_ al i.toNat).Count) := by rw [← hb3, h2, hB2, List.set_set]; rfl
     have h3 : at_ b3 i.toNat = Trained.mk (mkTx k') al'_1 al'_2 (at_ al i.toNat).Count := by rw [hB3]; exact at_setQ hib
     have hl3 : b3.length = al.length := by rw [hB3, List.length_set]; exact hl
     simp only [h2] at hx2_0
     refine x_r [] [0, 1, 5] [7401, 7411, 7412] [.arr 7401, I v_2, I i] [some (.oar [7411, 7412] 4 b3.length (fun q => bif Nat.beq q i.toNat then [Sv ((at_ b3 i.toNat).Label), .row 7411 i.toNat, .row 7412 i.toNat, I v_2] else (oTrained 7411 7412 b3) q)), some (tFTrainedBase b3), some (tFTrainedFeats b3)] [(0 : Int) ≤ i ∧ i < (b3.length : Int), i.toNat < b3.length] ⟨⟨(by omega), (by omega)⟩, (by omega), trivial⟩ ?_
     refine xe_then ?_
     refine x_weak [] (T := [(0, .arr 7401), (1, I v_2), (5, I i)]) (O := [(7401, tOTrained 7411 7412 (b3.set i.toNat (Trained.mk ((at_ b3 i.toNat).Label) ((at_ b3 i.toNat).Base) ((at_ b3 i.toNat).Feats) v_2))), (7411, tFTrainedBase (b3.set i.toNat (Trained.mk ((at_ b3 i.toNat).Label) ((at_ b3 i.toNat).Base) ((at_ b3 i.toNat).Feats) v_2))), (7412, tFTrainedFeats (b3.set i.toNat (Trained.mk ((at_ b3 i.toNat).Label) ((at_ b3 i.toNat).Base) ((at_ b3 i.toNat).Feats) v_2)))]) rfl (⟨.inl rfl, .inl rfl, .inl rfl, trivial⟩) (⟨.inr ⟨rfl, rfl, (by simp), fun i_ hi_ => .inl (oputTrained _ _ _ i_ hi_)⟩, .inr (fsameTrainedBase (P := i.toNat) (x' := (Trained.mk ((at_ b3 i.toNat).Label) ((at_ b3 i.toNat).Base) ((at_ b3 i.toNat).Feats) v_2)) rfl), .inr (fsameTrainedFeats (P := i.toNat) (x' := (Trained.mk ((at_ b3 i.toNat).Label) ((at_ b3 i.toNat).Base) ((at_ b3 i.toNat).Feats) v_2)) rfl), trivial⟩) ?_
     generalize hb4 : (b3.set i.toNat (Trained.mk ((at_ b3 i.toNat).Label) ((at_ b3 i.toNat).Base) ((at_ b3 i.toNat).Feats) v_2)) = b4
     have hB4 : b4 = bl.set i.toNat (mTr k' (at_ al i.toNat)) := by rw [← hb4, h3, hB3, List.set_set, ha1, ha2, hx2_0, hx1_0]; rfl
     refine x_r [] [0, 1, 5] [7401, 7411, 7412] [.arr 7401, I (v_2 + 1), I i] [some (tOTrained 7411 7412 b4), some (tFTrainedBase b4), some (tFTrainedFeats b4)] [inR .i64 (v_2 + 1)] ⟨(inR_i64 (by omega) (by omega)), trivial⟩ ?_
     refine xe_block 1 ?_
     refine xe_then ?_
     refine x_r [] [0, 1, 5] [7401, 7411, 7412] [.arr 7401, I (v_2 + 1), I (i + 1)] [some (tOTrained 7411 7412 b4), some (tFTrainedBase b4), some (tFTrainedFeats b4)] [inR .i64 (i + 1)] ⟨(inR_i64 (by omega) (by omega)), trivial⟩ ?_
     exact xe_again ((v_2 + 1), (i + 1), b4) rfl (show (0 ≤ (i + 1) ∧ (i + 1) ≤ (al.length : Int)) ∧ (b4 = mRs k (al.take (i + 1).toNat) ++ al.drop (i + 1).toNat) ∧ ((v_2 + 1) = nRs k (al.take (i + 1).toNat)) ∧ True from ⟨(by omega), (by rw [show (i + 1).toNat = i.toNat + 1 from by omega, (mRs_take hi k).1, ← hk1, hB4, hy0, mid_set hpl hi]), (by rw [show (i + 1).toNat = i.toNat + 1 from by omega, (mRs_take hi k).2, ← hk1]; unfold nTr; omega), trivial⟩) (by first | (show (((al.length : Int) - (i + 1)).toNat : Nat) < ((al.length : Int) - i).toNat; omega) | (dsimp only; omega))
    have hpl : (mRs k (al.take i.toNat)).length = i.toNat := by rw [mRs_len]; simp; omega
    have hl : bl.length = al.length := by rw [hy0]; exact mid_len hpl (by omega)
    have hie : i.toNat = al.length := by omega
    rw [hie, List.take_length] at hk1
    rw [hie, List.take_length, List.drop_length, List.append_nil] at hy0
    refine x_r [(3, .dec false)] [0, 1, 5, 9] [7401, 7411, 7412] [.arr 7401, I k', I i, Bv false] [some (tOTrained 7411 7412 bl), some (tFTrainedBase bl), some (tFTrainedFeats bl)] [¬ (i < (bl.length : Int))] ⟨h1, trivial⟩ ?_
    refine xe_then ?_
    refine x_false rfl ?_
    refine x_exit ?_
    refine xe_exit_then ?_
    refine xe_loop_exit ?_
    refine xe_exit_same ?_
    refine xe_then ?_
    refine xR [] [4] [7401, 7411, 7412] [I k'] [some (tOTrained 7411 7412 bl), some (tFTrainedBase bl), some (tFTrainedFeats bl)] [] trivial ?_
    refine x_ret ?_
    refine xe_end (k', bl) (show (k' = nRs k al) ∧ (bl = mRs k al) ∧ (True) from ⟨(by first | exact hk1 | exact hy0), (by first | exact hk1 | exact hy0), trivial⟩) (⟨.inl rfl, .inl rfl, .inl rfl, trivial⟩) (I k') (by kernel_rfl) (.inl rfl) (fun _ => rfl) (fun _ => trivial)
  obtain ⟨⟨v, al'⟩, ⟨hh0, hh1, _⟩, hc⟩ := hh
  exact ⟨v, al', hh0, hh1, hc⟩


-- laws.markWriter
theorem markWriter_ok (al : Writer) (k : Int) (hk : 0 ≤ k ∧ nRs k al.Trained ≤ 4000000) : ∃ (v : Int) (al_Trained : List Trained), (v = nRs k al.Trained) ∧ (al_Trained = mRs k al.Trained) ∧ CallOK Tryz.prog 23 [.agg [I al.Band, .arr 7401], I k] (lookO [(7401, tOTrained 7411 7412 al.Trained), (7411, tFTrainedBase al.Trained), (7412, tFTrainedFeats al.Trained)]) true (I v) (lookO [(7401, tOTrained 7411 7412 al_Trained), (7411, tFTrainedBase al_Trained), (7412, tFTrainedFeats al_Trained)]) := by
  have hh : ∃ r : Int × (List Trained), ((r.1 = nRs k al.Trained) ∧ (r.2 = mRs k al.Trained) ∧ (True)) ∧ CallOK Tryz.prog 23 [.agg [I al.Band, .arr 7401], I k] (lookO [(7401, tOTrained 7411 7412 al.Trained), (7411, tFTrainedBase al.Trained), (7412, tFTrainedFeats al.Trained)]) true (I r.1) (lookO [(7401, tOTrained 7411 7412 r.2), (7411, tFTrainedBase r.2), (7412, tFTrainedFeats r.2)]) := by
    refine fn_okX (Φ := fun r : Int × (List Trained) => (r.1 = nRs k al.Trained) ∧ (r.2 = mRs k al.Trained) ∧ (True)) [(7401, tOTrained 7411 7412 al.Trained), (7411, tFTrainedBase al.Trained), (7412, tFTrainedFeats al.Trained)] (fun r => [(7401, tOTrained 7411 7412 r.2), (7411, tFTrainedBase r.2), (7412, tFTrainedFeats r.2)]) (fn := Tryz.f23) (nt := 10) Tryz.func23 rfl rfl (args := [.agg [I al.Band, .arr 7401], I k]) rfl (allcons (.inr (by simp [tagged, taggedL])) (allcons (.inl ⟨rfl, trivial⟩) allnil)) (res := fun r => I r.1) ?_
    refine xR [(0, .new 2)] [1, 2] [2, 7401, 7411, 7412] [I k, .ref 2 0] [some (.box [I al.Band, .arr 7401]), some (tOTrained 7411 7412 al.Trained), some (tFTrainedBase al.Trained), some (tFTrainedFeats al.Trained)] [] trivial ?_
    refine x_seq ?_
    obtain ⟨v_1, al'_1, hx1_0, hx1_1, hc1⟩ := markTrainedS_ok al.Trained k hk
    refine x_r [(3, .lend [(7401, tOTrained 7411 7412 al.Trained, tOTrained 7411 7412 al'_1), (7411, tFTrainedBase al.Trained, tFTrainedBase al'_1), (7412, tFTrainedFeats al.Trained, tFTrainedFeats al'_1)] [] [(true, .any), (true, .any)] true (I v_1))] [1] [7401, 7411, 7412] [I v_1] [some (tOTrained 7411 7412 al'_1), some (tFTrainedBase al'_1), some (tFTrainedFeats al'_1)] [CallOK Tryz.prog 57 [.arr 7401, I k] (lookO [(7401, tOTrained 7411 7412 al.Trained), (7411, tFTrainedBase al.Trained), (7412, tFTrainedFeats al.Trained)]) true (I v_1) (lookO [(7401, tOTrained 7411 7412 al'_1), (7411, tFTrainedBase al'_1), (7412, tFTrainedFeats al'_1)]) ∧ (((tOTrained 7411 7412 al.Trained : Ob) = tOTrained 7411 7412 al.Trained ∨ obLe noOb true (tOTrained 7411 7412 al.Trained) (tOTrained 7411 7412 al.Trained)) ∧ taggedO false (tOTrained 7411 7412 al.Trained)) ∧ (((tFTrainedBase al.Trained : Ob) = tFTrainedBase al.Trained ∨ obLe noOb true (tFTrainedBase al.Trained) (tFTrainedBase al.Trained)) ∧ taggedO false (tFTrainedBase al.Trained)) ∧ (((tFTrainedFeats al.Trained : Ob) = tFTrainedFeats al.Trained ∨ obLe noOb true (tFTrainedFeats al.Trained) (tFTrainedFeats al.Trained)) ∧ taggedO false (tFTrainedFeats al.Trained)) ∧ True] ⟨⟨hc1, ⟨.inl rfl, (by intro i_ _; simp [oTrained, oTrainedc, taggedL, tagged])⟩, ⟨.inl rfl, (fun _ _ _ _ => tagcFeat false _)⟩, ⟨.inl rfl, (fun _ _ _ _ => tagcFeat false _)⟩, trivial⟩, trivial⟩ ?_
    refine xe_then ?_
    refine xR [] [4] [7401, 7411, 7412] [I v_1] [some (tOTrained 7411 7412 al'_1), some (tFTrainedBase al'_1), some (tFTrainedFeats al'_1)] [] trivial ?_
    refine x_ret ?_
    refine xe_end (v_1, al'_1) (show (v_1 = nRs k al.Trained) ∧ (al'_1 = mRs k al.Trained) ∧ (True) from ⟨(by assumption), (by assumption), trivial⟩) (⟨.inl rfl, .inl rfl, .inl rfl, trivial⟩) (I v_1) (by kernel_rfl) (.inl rfl) (fun _ => rfl) (fun _ => trivial)
  obtain ⟨⟨v, al_Trained⟩, ⟨hh0, hh1, _⟩, hc⟩ := hh
  exact ⟨v, al_Trained, hh0, hh1, hc⟩


-- laws.heldFeatS
theorem heldFeatS_ok (a : List Feat) (k : Int) (hk : 0 ≤ k ∧ k ≤ 100000000 ∧ a.length ≤ 2000000) (ha : a = mkL k a.length) : Con Tryz.prog 93 [slFeat false a, I k] true (I (k + 3 * (a.length : Int))) := by
  refine fn_ok (fn := Tryz.f93) (nt := 40) Tryz.func93 rfl rfl rfl rfl (by simp [taggedL, tagged, tagFeat]) fun B hB => ?_
  refine aw_lens (x := slFeat false a) 0 rfl (fun len_a => ?_)
  simp [LenOK, LenL, cFeat, fFeat, slFeat] at len_a
  refine aR [] [0, 1] [] [slFeat false a, I k] [] [] hB trivial ?_
  refine aw_seq ?_
  refine aR [] [0, 1, 5] [] [slFeat false a, I k, I 0] [] [] hB trivial ?_
  refine aw_block ?_
  refine aw_loop (fun gn gσ => ∃ (k' : Int) (i : Int), gn = ((a.length : Int) - i).toNat ∧ (0 ≤ i ∧ i ≤ (a.length : Int)) ∧ (k' = k + 3 * i) ∧ gσ = mkS [(0, slFeat false a), (1, I k'), (5, I i)] []) (((a.length : Int) - 0).toNat) ⟨k, 0, rfl, (by omega), (by omega), rfl⟩ (fun gn gσ hI => ?_)
  obtain ⟨k', i, rfl, hi0, hk1, rfl⟩ := hI
  refine aw_seq ?_
  refine aw_seq ?_
  by_cases h1 : i < (a.length : Int)
  ·have hi : i.toNat < a.length := by omega
   have hat : at_ a i.toNat = ⟨k + 3 * (i.toNat : Int), k + 3 * (i.toNat : Int) + 1, k + 3 * (i.toNat : Int) + 2⟩ := (congrArg (fun z => at_ z i.toNat) ha).trans (mkL_at hi)
   refine aw_r [(3, .dec true)] [0, 1, 5, 9] [] [slFeat false a, I k', I i, Bv true] [] [i < (a.length : Int)] hB ⟨h1, trivial⟩ ?_
   refine ae_then ?_
   refine aw_true rfl ?_
   refine aw_skip ?_
   refine ae_then ?_
   refine aw_seq ?_
   refine aw_block ?_
   refine aw_seq ?_
   refine aR [(6, .dec false)] [0, 1, 5, 18] [] [slFeat false a, I k', I i, Bv false] [] [(0 : Int) ≤ i ∧ i < (a.length : Int), ¬ (((at_ a i.toNat).X) ≠ k')] hB ⟨⟨(by omega), (by omega)⟩, (fun hq => hq (by rw [hat]; simp only; omega)), trivial⟩ ?_
   refine aw_false rfl ?_
   refine aw_skip ?_
   refine ae_then ?_
   refine aR [] [0, 1, 5] [] [slFeat false a, I (k' + 1), I i] [] [inR .i64 (k' + 1)] hB ⟨(inR_i64 (by omega) (by omega)), trivial⟩ ?_
   refine aw_seq ?_
   refine aR [(6, .dec false)] [0, 1, 5, 27] [] [slFeat false a, I (k' + 1), I i, Bv false] [] [(0 : Int) ≤ i ∧ i < (a.length : Int), ¬ (((at_ a i.toNat).Y) ≠ (k' + 1))] hB ⟨⟨(by omega), (by omega)⟩, (fun hq => hq (by rw [hat]; simp only; omega)), trivial⟩ ?_
   refine aw_false rfl ?_
   refine aw_skip ?_
   refine ae_then ?_
   refine aR [] [0, 1, 5] [] [slFeat false a, I ((k' + 1) + 1), I i] [] [inR .i64 ((k' + 1) + 1)] hB ⟨(inR_i64 (by omega) (by omega)), trivial⟩ ?_
   refine aw_seq ?_
   refine aR [(6, .dec false)] [0, 1, 5, 36] [] [slFeat false a, I ((k' + 1) + 1), I i, Bv false] [] [(0 : Int) ≤ i ∧ i < (a.length : Int), ¬ (((at_ a i.toNat).D) ≠ ((k' + 1) + 1))] hB ⟨⟨(by omega), (by omega)⟩, (fun hq => hq (by rw [hat]; simp only; omega)), trivial⟩ ?_
   refine aw_false rfl ?_
   refine aw_skip ?_
   refine ae_then ?_
   refine aw_r [] [0, 1, 5] [] [slFeat false a, I (((k' + 1) + 1) + 1), I i] [] [inR .i64 (((k' + 1) + 1) + 1)] hB ⟨(inR_i64 (by omega) (by omega)), trivial⟩ ?_
   refine ae_block 1 ?_
   refine ae_then ?_
   refine aw_r [] [0, 1, 5] [] [slFeat false a, I (((k' + 1) + 1) + 1), I (i + 1)] [] [inR .i64 (i + 1)] hB ⟨(inR_i64 (by omega) (by omega)), trivial⟩ ?_
   exact ae_again _ (by omega) ⟨(((k' + 1) + 1) + 1), (i + 1), rfl, (by omega), (by omega), rfl⟩
  refine aw_r [(3, .dec false)] [0, 1, 5, 9] [] [slFeat false a, I k', I i, Bv false] [] [¬ (i < (a.length : Int))] hB ⟨h1, trivial⟩ ?_
  refine ae_then ?_
  refine aw_false rfl ?_
  refine aw_exit ?_
  refine ae_exit_then ?_
  refine ae_exit_then ?_
  refine ae_exit_same ?_
  refine ae_then ?_
  refine aR [] [4] [] [I k'] [] [] hB trivial ?_
  refine aw_ret ?_
  refine ae_ret hB (I k') (by kernel_rfl) (.inl (by refine congrArg I ?_; omega)) rfl (fun _ => trivial)


-- laws.heldTrainedS
theorem heldTrainedS_ok (a : List Trained) (k : Int) (hk : 0 ≤ k ∧ nRs k a ≤ 4000000) (ha : a = mRs k a) : Con Tryz.prog 58 [slTrained false a, I k] true (I (nRs k a)) := by
  have hb0 := nRs_lo a k
  refine fn_ok (fn := Tryz.f58) (nt := 50) Tryz.func58 rfl rfl rfl rfl (by simp [taggedL, tagged, tagTrained]) fun B hB => ?_
  refine aw_lens (x := slTrained false a) 0 rfl (fun len_a => ?_)
  simp [LenOK, LenL, cFeat, cTrained, fFeat, fTrained, slFeat, slTrained] at len_a
  refine aR [] [0, 1] [] [slTrained false a, I k] [] [] hB trivial ?_
  refine aw_seq ?_
  refine aR [] [0, 1, 5] [] [slTrained false a, I k, I 0] [] [] hB trivial ?_
  refine aw_block ?_
  refine aw_loop (fun gn gσ => ∃ (k' : Int) (i : Int), gn = ((a.length : Int) - i).toNat ∧ (0 ≤ i ∧ i ≤ (a.length : Int)) ∧ (k' = nRs k (a.take i.toNat)) ∧ gσ = mkS [(0, slTrained false a), (1, I k'), (5, I i)] []) (((a.length : Int) - 0).toNat) ⟨k, 0, rfl, (by omega), (by rfl), rfl⟩ (fun gn gσ hI => ?_)
  obtain ⟨k', i, rfl, hi0, hk1, rfl⟩ := hI
  refine aw_seq ?_
  refine aw_seq ?_
  by_cases h1 : i < (a.length : Int)
  ·have hi : i.toNat < a.length := by omega
   have hbd := nRs_lo (a.take i.toNat) k
   have hmid := nRs_mid hi k
   unfold nTr at hmid
   have hat : at_ a i.toNat = mTr k' (at_ a i.toNat) := (mRs_self ha hi).trans (by rw [← hk1])
   have hLabel : (at_ a i.toNat).Label = mkTx k' := congrArg (fun t : Trained => t.Label) hat
   have hBase : (at_ a i.toNat).Base = mkL (k' + 1) (at_ a i.toNat).Base.length := congrArg (fun t : Trained => t.Base) hat
   have hFeats : (at_ a i.toNat).Feats = mkL (k' + 1 + 3 * ((at_ a i.toNat).Base.length : Int)) (at_ a i.toNat).Feats.length := congrArg (fun t : Trained => t.Feats) hat
   have hCount : (at_ a i.toNat).Count = k' + 1 + 3 * ((at_ a i.toNat).Base.length : Int) + 3 * ((at_ a i.toNat).Feats.length : Int) := congrArg (fun t : Trained => t.Count) hat
   refine aw_r [(3, .dec true)] [0, 1, 5, 9] [] [slTrained false a, I k', I i, Bv true] [] [i < (a.length : Int)] hB ⟨h1, trivial⟩ ?_
   refine ae_then ?_
   refine aw_true rfl ?_
   refine aw_skip ?_
   refine ae_then ?_
   refine aw_seq ?_
   refine aw_block ?_
   refine aw_seq ?_
   refine aR [(6, .call [(true, .any)] true (Sv (mkTx k'))), (7, .dec false)] [0, 1, 5, 19] [] [slTrained false a, I k', I i, Bv false] [] [(0 : Int) ≤ i ∧ i < (a.length : Int), Con Tryz.prog 92 [I k'] true (Sv (mkTx k')) ∧ True, ¬ (((at_ a i.toNat).Label) ≠ (mkTx k'))] hB ⟨⟨(by omega), (by omega)⟩, ⟨(markText_ok k' (by omega)), trivial⟩, (fun hq => hq hLabel), trivial⟩ ?_
   refine aw_false rfl ?_
   refine aw_skip ?_
   refine ae_then ?_
   refine aR [] [0, 1, 5] [] [slTrained false a, I (k' + 1), I i] [] [inR .i64 (k' + 1)] hB ⟨(inR_i64 (by omega) (by omega)), trivial⟩ ?_
   refine aR [(6, .call [(true, .any), (true, .any)] true (I ((k' + 1) + 3 * (((at_ a i.toNat).Base).length : Int))))] [0, 1, 5] [] [slTrained false a, I ((k' + 1) + 3 * (((at_ a i.toNat).Base).length : Int)), I i] [] [(0 : Int) ≤ i ∧ i < (a.length : Int), Con Tryz.prog 93 [slFeat false ((at_ a i.toNat).Base), I (k' + 1)] true (I ((k' + 1) + 3 * (((at_ a i.toNat).Base).length : Int))) ∧ True] hB ⟨⟨(by omega), (by omega)⟩, ⟨(heldFeatS_ok ((at_ a i.toNat).Base) (k' + 1) (by omega) hBase), trivial⟩, trivial⟩ ?_
   refine aw_seq ?_
   refine aR [(1, .dec false)] [0, 1, 5, 30] [] [slTrained false a, I ((k' + 1) + 3 * (((at_ a i.toNat).Base).length : Int)), I i, Bv false] [] [¬ (((k' + 1) + 3 * (((at_ a i.toNat).Base).length : Int)) < 0)] hB ⟨(by omega), trivial⟩ ?_
   refine aw_false rfl ?_
   refine aw_skip ?_
   refine ae_then ?_
   refine aR [(6, .call [(true, .any), (true, .any)] true (I (((k' + 1) + 3 * (((at_ a i.toNat).Base).length : Int)) + 3 * (((at_ a i.toNat).Feats).length : Int))))] [0, 1, 5] [] [slTrained false a, I (((k' + 1) + 3 * (((at_ a i.toNat).Base).length : Int)) + 3 * (((at_ a i.toNat).Feats).length : Int)), I i] [] [(0 : Int) ≤ i ∧ i < (a.length : Int), Con Tryz.prog 93 [slFeat false ((at_ a i.toNat).Feats), I ((k' + 1) + 3 * (((at_ a i.toNat).Base).length : Int))] true (I (((k' + 1) + 3 * (((at_ a i.toNat).Base).length : Int)) + 3 * (((at_ a i.toNat).Feats).length : Int))) ∧ True] hB ⟨⟨(by omega), (by omega)⟩, ⟨(heldFeatS_ok ((at_ a i.toNat).Feats) ((k' + 1) + 3 * (((at_ a i.toNat).Base).length : Int)) (by omega) hFeats), trivial⟩, trivial⟩ ?_
   refine aw_seq ?_
   refine aR [(1, .dec false)] [0, 1, 5, 39] [] [slTrained false a, I (((k' + 1) + 3 * (((at_ a i.toNat).Base).length : Int)) + 3 * (((at_ a i.toNat).Feats).length : Int)), I i, Bv false] [] [¬ ((((k' + 1) + 3 * (((at_ a i.toNat).Base).length : Int)) + 3 * (((at_ a i.toNat).Feats).length : Int)) < 0)] hB ⟨(by omega), trivial⟩ ?_
   refine aw_false rfl ?_
   refine aw_skip ?_
   refine ae_then ?_
   refine aw_seq ?_
   refine aR [(6, .dec false)] [0, 1, 5, 46] [] [slTrained false a, I (((k' + 1) + 3 * (((at_ a i.toNat).Base).length : Int)) + 3 * (((at_ a i.toNat).Feats).length : Int)), I i, Bv false] [] [(0 : Int) ≤ i ∧ i < (a.length : Int), ¬ (((at_ a i.toNat).Count) ≠ (((k' + 1) + 3 * (((at_ a i.toNat).Base).length : Int)) + 3 * (((at_ a i.toNat).Feats).length : Int)))] hB ⟨⟨(by omega), (by omega)⟩, (fun hq => hq (hCount.trans (by omega))), trivial⟩ ?_
   refine aw_false rfl ?_
   refine aw_skip ?_
   refine ae_then ?_
   refine aw_r [] [0, 1, 5] [] [slTrained false a, I ((((k' + 1) + 3 * (((at_ a i.toNat).Base).length : Int)) + 3 * (((at_ a i.toNat).Feats).length : Int)) + 1), I i] [] [inR .i64 ((((k' + 1) + 3 * (((at_ a i.toNat).Base).length : Int)) + 3 * (((at_ a i.toNat).Feats).length : Int)) + 1)] hB ⟨(inR_i64 (by omega) (by omega)), trivial⟩ ?_
   refine ae_block 1 ?_
   refine ae_then ?_
   refine aw_r [] [0, 1, 5] [] [slTrained false a, I ((((k' + 1) + 3 * (((at_ a i.toNat).Base).length : Int)) + 3 * (((at_ a i.toNat).Feats).length : Int)) + 1), I (i + 1)] [] [inR .i64 (i + 1)] hB ⟨(inR_i64 (by omega) (by omega)), trivial⟩ ?_
   exact ae_again _ (by omega) ⟨((((k' + 1) + 3 * (((at_ a i.toNat).Base).length : Int)) + 3 * (((at_ a i.toNat).Feats).length : Int)) + 1), (i + 1), rfl, (by omega), (by rw [show (i + 1).toNat = i.toNat + 1 from by omega, (mRs_take hi k).2, ← hk1]; unfold nTr; omega), rfl⟩
  have hie : i.toNat = a.length := by omega
  rw [hie, List.take_length] at hk1
  refine aw_r [(3, .dec false)] [0, 1, 5, 9] [] [slTrained false a, I k', I i, Bv false] [] [¬ (i < (a.length : Int))] hB ⟨h1, trivial⟩ ?_
  refine ae_then ?_
  refine aw_false rfl ?_
  refine aw_exit ?_
  refine ae_exit_then ?_
  refine ae_exit_then ?_
  refine ae_exit_same ?_
  refine ae_then ?_
  refine aR [] [4] [] [I k'] [] [] hB trivial ?_
  refine aw_ret ?_
  refine ae_ret hB (I k') (by kernel_rfl) (.inl (by rw [hk1])) rfl (fun _ => trivial)


def Template.withFeats (x : Template) (ys : List Feat) : Template := Template.mk x.Label ys
def oTemplatec (F : Nat) (x : Template) (i : Nat) : List AV := [Sv x.Label, .row F i]
def oTemplate (F : Nat) (xs : List Template) (i : Nat) : List AV := oTemplatec F (at_ xs i) i
def mTemplate (xs : List Template) (p : Nat) : Nat := ((at_ xs p).Feats).length
def gTemplate (xs : List Template) (p : Nat) : Nat → List AV := fFeat ((at_ xs p).Feats)
abbrev tOTemplate (F : Nat) (xs : List Template) : Ob := .oar [F] 2 xs.length (oTemplate F xs)
abbrev tFTemplate (xs : List Template) : Ob := .fam xs.length 3 (mTemplate xs) (gTemplate xs)
theorem oleTemplate {ob : Nat → Option Ob} {F : Nat} (fr : Bool) (xs : List Template) (h : ob F = some (.fam xs.length 3 (mTemplate xs) (gTemplate xs))) : ∀ i, i < xs.length → AV.idsL (fTemplate fr xs i) = [] ∧ leL ob true (oTemplate F xs i) (fTemplate fr xs i) :=
  fun i hi => And.intro rfl (And.intro rfl (And.intro (le_row h hi rfl (fun q _ => .inl rfl)) rfl))
theorem olecatTemplate {ob : Nat → Option Ob} {F : Nat} (fr : Bool) (xs : List Template) (x : Template) {f : Nat → List AV} (h : ob F = some (.fam xs.length 3 (mTemplate xs) (gTemplate xs))) (hx : leL ob true (f 0) (cTemplate fr x)) : ∀ i, i < (xs ++ [x]).length → AV.idsL (fTemplate fr (xs ++ [x]) i) = [] ∧ leL ob true (catF xs.length (oTemplate F xs) f i) (fTemplate fr (xs ++ [x]) i) := by
  intro i hi
  by_cases hl : i < xs.length
  · have := oleTemplate fr xs h i hl
    rw [catF_lt hl]
    have e : fTemplate fr (xs ++ [x]) i = fTemplate fr xs i := by show cTemplate fr (at_ _ _) = cTemplate fr (at_ _ _); rw [at_left hl]
    rw [e]; exact this
  · have e : i = xs.length := by simp at hi; omega
    subst e
    rw [catF_ge (Nat.le_refl _), Nat.sub_self]
    have e : fTemplate fr (xs ++ [x]) xs.length = cTemplate fr x := by show cTemplate fr (at_ _ _) = _; rw [at_right (Nat.le_refl _)]; simp [at_]
    rw [e]; exact ⟨rfl, hx⟩
theorem ocatTemplate {F j N : Nat} (hF : Nat.beq F j = false) {xs : List Template} {x : Template} {g : Nat → List AV} (hN : N = xs.length) (hx : AV.joiL j F N (g 0) = oTemplatec F x N) : ∀ i, i < (xs ++ [x]).length → AV.joiL j F N (catF xs.length (oTemplate F xs) g i) = oTemplate F (xs ++ [x]) i := by
  subst hN
  intro i hi
  by_cases h : i < xs.length
  · rw [catF_lt h]
    simp [oTemplate, oTemplatec, at_left h, AV.joiL, AV.joi, hF]
  · have e : i = xs.length := by simp at hi; omega
    subst e
    rw [catF_ge (Nat.le_refl _), Nat.sub_self, hx]
    simp [oTemplate, at_right (Nat.le_refl _), at_]
theorem fcatTemplate {xs : List Template} (x : Template) {n : Nat} {f : Nat → List AV} (hn : n = x.Feats.length) (hf : ∀ i, i < n → f i = fFeat x.Feats i) : xs.length + 1 = (xs ++ [x]).length ∧ 3 = 3 ∧ ∀ p, p < (xs ++ [x]).length → famUp xs.length n (mTemplate xs) p = mTemplate (xs ++ [x]) p ∧ ∀ i, i < mTemplate (xs ++ [x]) p → famUpF xs.length f (gTemplate xs) p i = gTemplate (xs ++ [x]) p i ∨ (AV.idsL (gTemplate (xs ++ [x]) p i) = [] ∧ leL (fun _ => none) false (famUpF xs.length f (gTemplate xs) p i) (gTemplate (xs ++ [x]) p i)) := by
  refine ⟨by simp, rfl, fun p hp => ?_⟩
  by_cases h : p < xs.length
  · have e : Nat.beq p xs.length = false := Bool.eq_false_iff.2 fun e => by have := Nat.eq_of_beq_eq_true e; omega
    simp [famUp, famUpF, e, mTemplate, gTemplate, at_left h]
  · have e : p = xs.length := by simp at hp; omega
    subst e
    have e2 : at_ (xs ++ [x]) xs.length = x := by simp [at_right (Nat.le_refl _), at_]
    simp only [famUp, famUpF, Nat.beq_refl, cond_true, mTemplate, gTemplate, e2]
    exact ⟨hn, fun i hi => .inl (hf i (by omega))⟩
theorem osetTemplate (F P : Nat) (xs : List Template) (ys : List Feat) (i : Nat) : oTemplate F xs i = oTemplate F (xs.set P (Template.withFeats (at_ xs P) ys)) i := by
  unfold oTemplate
  by_cases h : P = i
  · subst h
    by_cases hl : P < xs.length
    · simp [at_, hl, oTemplatec, Template.withFeats]
    · rw [List.set_eq_of_length_le (by omega)]
  · simp [at_, h]
theorem fsameTemplate {xs : List Template} {P : Nat} {x' : Template} (hx : x'.Feats = (at_ xs P).Feats) : xs.length = (xs.set P x').length ∧ 3 = 3 ∧ ∀ p, p < (xs.set P x').length → mTemplate xs p = mTemplate (xs.set P x') p ∧ ∀ i, i < mTemplate (xs.set P x') p → gTemplate xs p i = gTemplate (xs.set P x') p i ∨ (AV.idsL (gTemplate (xs.set P x') p i) = [] ∧ leL (fun _ => none) false (gTemplate xs p i) (gTemplate (xs.set P x') p i)) := by
  refine ⟨by simp, rfl, fun p hp => ?_⟩
  have e : (at_ (xs.set P x') p).Feats = (at_ xs p).Feats := by
    by_cases h : p = P
    · subst h; rw [at_set_eq (by simpa using hp)]; exact hx
    · rw [at_set_ne h]
  simp only [mTemplate, gTemplate, e]
  first | exact ⟨trivial, fun i hi => .inl rfl⟩ | exact ⟨trivial, fun i hi => .inl trivial⟩
theorem fputTemplate {xs : List Template} {P m1 : Nat} {ys : List Feat} {f1 : Nat → List AV} (hP : P < xs.length) (hm : m1 = ys.length) (hf : ∀ i, i < m1 → f1 i = fFeat ys i) : xs.length = (xs.set P (Template.withFeats (at_ xs P) ys)).length ∧ 3 = 3 ∧ ∀ p, p < (xs.set P (Template.withFeats (at_ xs P) ys)).length → famUp P m1 (mTemplate xs) p = mTemplate (xs.set P (Template.withFeats (at_ xs P) ys)) p ∧ ∀ i, i < mTemplate (xs.set P (Template.withFeats (at_ xs P) ys)) p → famUpF P f1 (gTemplate xs) p i = gTemplate (xs.set P (Template.withFeats (at_ xs P) ys)) p i ∨ (AV.idsL (gTemplate (xs.set P (Template.withFeats (at_ xs P) ys)) p i) = [] ∧ leL (fun _ => none) false (famUpF P f1 (gTemplate xs) p i) (gTemplate (xs.set P (Template.withFeats (at_ xs P) ys)) p i)) := by
  refine ⟨by simp, rfl, fun p hp => ?_⟩
  by_cases h : p = P
  · subst h
    have e : (at_ (xs.set p (Template.withFeats (at_ xs p) ys)) p).Feats = ys := by rw [at_set_eq hP]; rfl
    simp only [mTemplate, gTemplate, famUp_at, famUpF_at, e]
    exact ⟨hm, fun i hi => .inl (hf i (by omega))⟩
  · have e : at_ (xs.set P (Template.withFeats (at_ xs P) ys)) p = at_ xs p := at_set_ne h
    simp only [mTemplate, gTemplate, famUp_ne _ _ h, famUpF_ne _ _ h, e]
    first | exact ⟨trivial, fun i hi => .inl rfl⟩ | exact ⟨trivial, fun i hi => .inl trivial⟩
theorem oputTemplate (F0 P : Nat) {xs : List Template} {x' : Template} (i : Nat) (hi : i < (xs.set P x').length) : (bif Nat.beq i P then oTemplatec F0 x' P else oTemplate F0 xs i) = oTemplate F0 (xs.set P x') i := by
  by_cases h : i = P
  · subst h
    have hl : i < xs.length := by simpa using hi
    simp only [Nat.beq_refl, cond_true, oTemplate, at_set_eq hl]
  · simp only [beq_ne h, cond_false, oTemplate, at_set_ne h]
theorem opreTemplate {F0 j0 P : Nat} (h00 : Nat.beq F0 j0 = false)  {xs : List Template} {x : Template} (hP : P = xs.length) (i : Nat) : (AV.joiL j0 F0 xs.length (bif Nat.beq i P then spl (catF xs.length (oTemplate F0 xs) (fun _ => [Sv (⟨#[]⟩ : ByteArray), nilA]) P) 0 [Sv x.Label, .arr j0] else catF xs.length (oTemplate F0 xs) (fun _ => [Sv (⟨#[]⟩ : ByteArray), nilA]) i)) = catF (xs ++ [x]).length (oTemplate F0 (xs ++ [x])) (fun _ => [Sv (⟨#[]⟩ : ByteArray), nilA]) i := by
  subst hP
  have e0 : spl (catF xs.length (oTemplate F0 xs) (fun _ => [Sv (⟨#[]⟩ : ByteArray), nilA]) xs.length) 0 [Sv x.Label, .arr j0] = [Sv x.Label, .arr j0] := by rw [catF_ge (Nat.le_refl _)]; rfl
  have eR : ∀ i, i < xs.length + 1 → catF (xs ++ [x]).length (oTemplate F0 (xs ++ [x])) (fun _ => [Sv (⟨#[]⟩ : ByteArray), nilA]) i = oTemplate F0 (xs ++ [x]) i := fun i h => catF_lt (by simpa using h)
  by_cases h : i < xs.length
  · have eL : catF xs.length (oTemplate F0 xs) (fun _ => [Sv (⟨#[]⟩ : ByteArray), nilA]) i = oTemplate F0 xs i := catF_lt h
    rw [beq_ne (by omega), cond_false, eL, eR i (by omega)]
    simp [oTemplate, oTemplatec, at_left h, AV.joiL, AV.joi, *]
  · by_cases e : i = xs.length
    · subst e
      rw [Nat.beq_refl, cond_true, e0, eR _ (by omega)]
      simp [oTemplate, oTemplatec, at_right (Nat.le_refl _), at_, AV.joiL, AV.joi, *]
    · have eL : catF xs.length (oTemplate F0 xs) (fun _ => [Sv (⟨#[]⟩ : ByteArray), nilA]) i = [Sv (⟨#[]⟩ : ByteArray), nilA] := catF_ge (by omega)
      have eT : catF (xs ++ [x]).length (oTemplate F0 (xs ++ [x])) (fun _ => [Sv (⟨#[]⟩ : ByteArray), nilA]) i = [Sv (⟨#[]⟩ : ByteArray), nilA] := catF_ge (by simp; omega)
      rw [beq_ne e, cond_false, eL, eT]
      rfl
theorem fsetTemplate {xs : List Template} {P k : Nat} {c : Feat} {g' : Nat → Nat → List AV} (hP : P < xs.length) (hk : k < ((at_ xs P).Feats).length) (h1 : g' P k = cFeat c) (h2 : ∀ i, i ≠ k → g' P i = gTemplate xs P i) (h3 : ∀ p, p ≠ P → g' p = gTemplate xs p) : xs.length = (xs.set P (Template.withFeats (at_ xs P) (((at_ xs P).Feats).set k c))).length ∧ 3 = 3 ∧ ∀ p, p < (xs.set P (Template.withFeats (at_ xs P) (((at_ xs P).Feats).set k c))).length → mTemplate xs p = mTemplate (xs.set P (Template.withFeats (at_ xs P) (((at_ xs P).Feats).set k c))) p ∧ ∀ i, i < mTemplate (xs.set P (Template.withFeats (at_ xs P) (((at_ xs P).Feats).set k c))) p → g' p i = gTemplate (xs.set P (Template.withFeats (at_ xs P) (((at_ xs P).Feats).set k c))) p i ∨ (AV.idsL (gTemplate (xs.set P (Template.withFeats (at_ xs P) (((at_ xs P).Feats).set k c))) p i) = [] ∧ leL (fun _ => none) false (g' p i) (gTemplate (xs.set P (Template.withFeats (at_ xs P) (((at_ xs P).Feats).set k c))) p i)) := by
  refine ⟨by simp, rfl, fun p hp => ?_⟩
  by_cases h : p = P
  · subst h
    have e2 : at_ (xs.set p (Template.withFeats (at_ xs p) (((at_ xs p).Feats).set k c))) p = (Template.withFeats (at_ xs p) (((at_ xs p).Feats).set k c)) := at_set_eq hP
    have e3 : (Template.withFeats (at_ xs p) (((at_ xs p).Feats).set k c)).Feats = ((at_ xs p).Feats).set k c := rfl
    simp only [mTemplate, gTemplate, e2, e3]
    refine ⟨by simp, fun i hi => .inl ?_⟩
    by_cases hi2 : i = k
    · subst hi2
      rw [h1]
      show _ = cFeat (at_ _ _)
      rw [at_set_eq hk]
    · rw [h2 i hi2]
      show cFeat (at_ _ _) = cFeat (at_ _ _)
      rw [at_set_ne hi2]
  · have e : at_ (xs.set P (Template.withFeats (at_ xs P) (((at_ xs P).Feats).set k c))) p = at_ xs p := at_set_ne h
    simp only [mTemplate, gTemplate, e]
    refine ⟨trivial, fun i hi => .inl ?_⟩
    rw [h3 p h]; rfl

def bulkTemplate (x : Template) : Nat := x.Label.size + (bulkFeatS x.Feats)
def bulkTemplateS : List Template → Nat
  | [] => 0
  | x :: r => 1 + (bulkTemplate x) + bulkTemplateS r
theorem bulkTemplateS_app (xs ys : List Template) : bulkTemplateS (xs ++ ys) = bulkTemplateS xs + bulkTemplateS ys := by
  induction xs with
  | nil => simp [bulkTemplateS]
  | cons x r ih => simp [bulkTemplateS, ih]; omega
theorem bulkTemplateS_len (xs : List Template) : xs.length ≤ bulkTemplateS xs := by
  induction xs with
  | nil => simp
  | cons x r ih => simp [bulkTemplateS]; omega
theorem bulkTemplateS_take {xs : List Template} {i : Nat} (h : i < xs.length) : bulkTemplateS (xs.take (i + 1)) = bulkTemplateS (xs.take i) + 1 + (bulkTemplate (at_ xs i)) := by
  rw [take_snoc' h, bulkTemplateS_app]; simp [bulkTemplateS]; omega
theorem bulkTemplateS_le (xs : List Template) (i : Nat) : bulkTemplateS (xs.take i) + (xs.length - i) ≤ bulkTemplateS xs := by
  have e := bulkTemplateS_app (xs.take i) (xs.drop i)
  rw [List.take_append_drop] at e
  have := bulkTemplateS_len (xs.drop i)
  simp at this
  omega
theorem bulkTemplateS_at {xs : List Template} {i : Nat} (h : i < xs.length) : 1 + (bulkTemplate (at_ xs i)) ≤ bulkTemplateS xs := by
  have h1 := bulkTemplateS_take h
  have h2 := bulkTemplateS_le xs (i + 1)
  omega

def mTm (k : Int) (t : Template) : Template := ⟨mkTx k, mkL (k + 1) t.Feats.length⟩
def nTm (k : Int) (t : Template) : Int := k + 1 + 3 * (t.Feats.length : Int)
def mTs : Int → List Template → List Template
  | _, [] => []
  | k, t :: r => mTm k t :: mTs (nTm k t) r
def nTs : Int → List Template → Int
  | k, [] => k
  | k, t :: r => nTs (nTm k t) r
theorem mTs_app : ∀ (a b : List Template) (k : Int), mTs k (a ++ b) = mTs k a ++ mTs (nTs k a) b
  | [], b, k => rfl
  | t :: r, b, k => by simp only [List.cons_append, mTs, nTs]; rw [mTs_app r b]
theorem nTs_app : ∀ (a b : List Template) (k : Int), nTs k (a ++ b) = nTs (nTs k a) b
  | [], b, k => rfl
  | t :: r, b, k => by simp only [List.cons_append, nTs]; rw [nTs_app r b]
theorem mTs_len : ∀ (a : List Template) (k : Int), (mTs k a).length = a.length
  | [], k => rfl
  | t :: r, k => by simp only [mTs, List.length_cons, mTs_len r]
theorem nTs_lo : ∀ (a : List Template) (k : Int), k + (a.length : Int) ≤ nTs k a
  | [], k => by simp [nTs]
  | t :: r, k => by
    have h := nTs_lo r (nTm k t)
    simp only [nTs, List.length_cons]
    unfold nTm at *
    omega
theorem nTs_bd : ∀ (a : List Template) (k : Int), k ≤ nTs k a ∧ nTs k a ≤ k + 3 * (bulkTemplateS a : Int)
  | [], k => by simp [nTs, bulkTemplateS]
  | t :: r, k => by
    have h := nTs_bd r (nTm k t)
    have e := bulkFeatS_len t.Feats
    simp only [nTs, bulkTemplateS, bulkTemplate]
    unfold nTm at *
    omega
theorem mTs_take {l : List Template} {i : Nat} (hi : i < l.length) (k : Int) : mTs k (l.take (i + 1)) = mTs k (l.take i) ++ [mTm (nTs k (l.take i)) (at_ l i)] ∧ nTs k (l.take (i + 1)) = nTm (nTs k (l.take i)) (at_ l i) := by
  rw [take_snoc' hi, mTs_app, nTs_app]; exact ⟨rfl, rfl⟩
theorem nTs_mid {l : List Template} {i : Nat} (hi : i < l.length) (k : Int) : nTm (nTs k (l.take i)) (at_ l i) ≤ nTs k l := by
  have h := nTs_lo (l.drop (i + 1)) (nTs k (l.take (i + 1)))
  rw [← nTs_app, List.take_append_drop, (mTs_take hi k).2] at h
  omega

theorem mTr_idem (k : Int) (t : Trained) : mTr k (mTr k t) = mTr k t := by simp only [mTr, mkL_len]
theorem nTr_idem (k : Int) (t : Trained) : nTr k (mTr k t) = nTr k t := by simp only [mTr, nTr, mkL_len]
theorem mRs_idem : ∀ (l : List Trained) (k : Int), mRs k (mRs k l) = mRs k l
  | [], k => rfl
  | t :: r, k => by simp only [mRs]; rw [mTr_idem, nTr_idem, mRs_idem r]
theorem nRs_idem : ∀ (l : List Trained) (k : Int), nRs k (mRs k l) = nRs k l
  | [], k => rfl
  | t :: r, k => by simp only [mRs, nRs]; rw [nTr_idem, nRs_idem r]
theorem stT_n : ∀ (l : List Template) (k : Int), (∀ t ∈ l, t.Feats.length ≤ 72) → nRs k (l.map stT) ≤ k + 434 * (l.length : Int)
  | [], k, _ => by simp [nRs]
  | t :: r, k, h => by
    have h1 := stT_n r (nTr k (stT t)) fun x hx => h x (List.mem_cons_of_mem _ hx)
    have h2 := h t (List.mem_cons_self ..)
    simp only [List.map_cons, nRs, List.length_cons]
    unfold nTr stT at *
    simp only at *
    omega
theorem wsR_n (s : Store) : nRs 1 (wsR s).1.Trained ≤ 4000000 := by
  cases h : okStore' s with
  | false => rw [wsR_no h]; decide
  | true =>
    rw [wsR_yes h]
    have h2 := okStore_iff.1 h
    have := stT_n s.Templates 1 fun t ht => by
      obtain ⟨j, hj, e⟩ := List.getElem_of_mem ht
      have := okTm_len (h2.2.2 j hj)
      rw [at_eq hj, e] at this; exact this
    show nRs 1 (s.Templates.map stT) ≤ _
    omega

-- laws.heldWriter
theorem heldWriter_ok (a : Writer) (k : Int) (hk : 0 ≤ k ∧ nRs k a.Trained ≤ 4000000) (ha : a.Trained = mRs k a.Trained) : Con Tryz.prog 25 [agWriter a, I k] true (I (nRs k a.Trained)) := by
  have hnb := nRs_lo a.Trained k
  refine fn_ok (fn := Tryz.f25) (nt := 12) Tryz.func25 rfl rfl rfl rfl (by simp [taggedL, tagged, tagTrained]) fun B hB => ?_
  refine aw_lens (x := agWriter a) 0 rfl (fun len_a => ?_)
  simp [LenOK, LenL, cFeat, cTrained, fFeat, fTrained, slFeat, slTrained] at len_a
  refine aR [(0, .new 2)] [1, 2] [2] [I k, .ref 2 0] [some (bxWriter a)] [] hB trivial ?_
  refine aR [(3, .call [(true, .any), (true, .any)] true (I (nRs k a.Trained)))] [1] [] [I (nRs k a.Trained)] [] [Con Tryz.prog 58 [slTrained false a.Trained, I k] true (I (nRs k a.Trained)) ∧ True] hB ⟨⟨(heldTrainedS_ok a.Trained k hk ha), trivial⟩, trivial⟩ ?_
  refine aw_seq ?_
  refine aR [(1, .dec false)] [1, 10] [] [I (nRs k a.Trained), Bv false] [] [¬ ((nRs k a.Trained) < 0)] hB ⟨(by omega), trivial⟩ ?_
  refine aw_false rfl ?_
  refine aw_skip ?_
  refine ae_then ?_
  refine aR [] [4] [] [I (nRs k a.Trained)] [] [] hB trivial ?_
  refine aw_ret ?_
  refine ae_ret hB (I (nRs k a.Trained)) (by kernel_rfl) (.inl rfl) rfl (fun _ => trivial)


theorem same_self {α : Type} [DecidableEq α] (x : α) : same x x = true := by simp [same]

-- laws.FnExactLearnSample
theorem fnExactLearnSample_con (aW : Writer) (aLabel : ByteArray) (aSample : List Feat) (aShare : Int) (ok_aW : okWriter aW) (ok_aLabel : aLabel.size ≤ 9223372036854775807) (in_aShare : inR .i64 aShare) : Con Tryz.prog 4 [agWriter aW, Sv aLabel, slFeat false aSample, I aShare] true (Bv true) := by
  refine fn_ok (fn := Tryz.f4) (nt := 153) Tryz.func4 rfl rfl rfl rfl (by simp [taggedL, tagged, tagFeat, tagTrained]) fun B hB => ?_
  refine aw_lens (x := agWriter aW) 0 rfl (fun len_aW => ?_)
  simp [LenOK, LenL, cFeat, cTrained, fFeat, fTrained, slFeat, slTrained] at len_aW
  refine aw_lens (x := slFeat false aSample) 2 rfl (fun len_aSample => ?_)
  simp [LenOK, LenL, cFeat, fFeat, slFeat] at len_aSample
  refine aR [(0, .new 4)] [1, 2, 3, 4] [4] [Sv aLabel, slFeat false aSample, I aShare, .ref 4 0] [some (bxWriter aW)] [] hB trivial ?_
  refine aw_seq ?_
  refine aw_seq ?_
  by_cases h1 : 1048576 < (aLabel.size : Int)
  ·refine aw_r [(2, .dec true)] [1, 2, 3, 4, 26] [4] [Sv aLabel, slFeat false aSample, I aShare, .ref 4 0, Bv true] [some (bxWriter aW)] [1048576 < (aLabel.size : Int)] hB ⟨h1, trivial⟩ ?_
   refine ae_then ?_
   refine aw_true rfl ?_
   refine aR [] [8] [] [Bv true] [] [] hB trivial ?_
   refine aw_ret ?_
   refine ae_ret_then ?_
   refine ae_ret hB (Bv true) (by kernel_rfl) (.inl rfl) rfl (fun _ => trivial)
  refine aw_r [(2, .dec false)] [1, 2, 3, 4, 26] [4] [Sv aLabel, slFeat false aSample, I aShare, .ref 4 0, Bv false] [some (bxWriter aW)] [¬ (1048576 < (aLabel.size : Int))] hB ⟨h1, trivial⟩ ?_
  refine ae_then ?_
  refine aw_false rfl ?_
  refine aw_skip ?_
  refine ae_then ?_
  refine aR [] [1, 2, 3, 4, 9] [4] [Sv aLabel, slFeat false aSample, I aShare, .ref 4 0, I 1048576] [some (bxWriter aW)] [] hB trivial ?_
  refine aR [(2, .call [(true, .any), (true, .any)] true (I (szTake 1048576 (bulkWriter aW))))] [1, 2, 3, 4, 9] [4] [Sv aLabel, slFeat false aSample, I aShare, .ref 4 0, I (szTake 1048576 (bulkWriter aW))] [some (bxWriter aW)] [Con Tryz.prog 16 [agWriter aW, I 1048576] true (I (szTake 1048576 (bulkWriter aW))) ∧ True] hB ⟨⟨(szWriter_ok aW 1048576 (by omega) ok_aW), trivial⟩, trivial⟩ ?_
  refine aw_seq ?_
  refine aw_seq ?_
  by_cases h2 : (szTake 1048576 (bulkWriter aW)) < 0
  ·refine aw_r [(1, .dec true)] [1, 2, 3, 4, 9, 31] [4] [Sv aLabel, slFeat false aSample, I aShare, .ref 4 0, I (szTake 1048576 (bulkWriter aW)), Bv true] [some (bxWriter aW)] [(szTake 1048576 (bulkWriter aW)) < 0] hB ⟨h2, trivial⟩ ?_
   refine ae_then ?_
   refine aw_true rfl ?_
   refine aR [] [8] [] [Bv true] [] [] hB trivial ?_
   refine aw_ret ?_
   refine ae_ret_then ?_
   refine ae_ret hB (Bv true) (by kernel_rfl) (.inl rfl) rfl (fun _ => trivial)
  have ebh2 := szTake_nn h2
  have ech2 := ebh2
  try unfold bulkWriter at ech2
  refine aw_r [(1, .dec false)] [1, 2, 3, 4, 9, 31] [4] [Sv aLabel, slFeat false aSample, I aShare, .ref 4 0, I (szTake 1048576 (bulkWriter aW)), Bv false] [some (bxWriter aW)] [¬ ((szTake 1048576 (bulkWriter aW)) < 0)] hB ⟨h2, trivial⟩ ?_
  refine ae_then ?_
  refine aw_false rfl ?_
  refine aw_skip ?_
  refine ae_then ?_
  refine aR [(2, .call [(true, .any), (true, .any)] true (I (szTake (szTake 1048576 (bulkWriter aW)) (bulkFeatS aSample))))] [1, 2, 3, 4, 9] [4] [Sv aLabel, slFeat false aSample, I aShare, .ref 4 0, I (szTake (szTake 1048576 (bulkWriter aW)) (bulkFeatS aSample))] [some (bxWriter aW)] [Con Tryz.prog 17 [slFeat false aSample, I (szTake 1048576 (bulkWriter aW))] true (I (szTake (szTake 1048576 (bulkWriter aW)) (bulkFeatS aSample))) ∧ True] hB ⟨⟨(szFeatS_ok aSample (szTake 1048576 (bulkWriter aW)) (by omega)), trivial⟩, trivial⟩ ?_
  refine aw_seq ?_
  refine aw_seq ?_
  by_cases h3 : (szTake (szTake 1048576 (bulkWriter aW)) (bulkFeatS aSample)) < 0
  ·refine aw_r [(1, .dec true)] [1, 2, 3, 4, 36] [4] [Sv aLabel, slFeat false aSample, I aShare, .ref 4 0, Bv true] [some (bxWriter aW)] [(szTake (szTake 1048576 (bulkWriter aW)) (bulkFeatS aSample)) < 0] hB ⟨h3, trivial⟩ ?_
   refine ae_then ?_
   refine aw_true rfl ?_
   refine aR [] [8] [] [Bv true] [] [] hB trivial ?_
   refine aw_ret ?_
   refine ae_ret_then ?_
   refine ae_ret hB (Bv true) (by kernel_rfl) (.inl rfl) rfl (fun _ => trivial)
  have ebh3 := szTake_nn h3
  have ech3 := ebh3
  try unfold bulkWriter at ech3
  refine aw_r [(1, .dec false)] [1, 2, 3, 4, 36] [4] [Sv aLabel, slFeat false aSample, I aShare, .ref 4 0, Bv false] [some (bxWriter aW)] [¬ ((szTake (szTake 1048576 (bulkWriter aW)) (bulkFeatS aSample)) < 0)] hB ⟨h3, trivial⟩ ?_
  refine ae_then ?_
  refine aw_false rfl ?_
  refine aw_skip ?_
  refine ae_then ?_
  refine aw_seq ?_
  obtain ⟨ts_1, hx1_0, hc1⟩ := toWriter_own aW (by first | omega | (have := bulkFeatS_len aSample; omega))
  obtain ⟨ys_2, hx2_0, hc2⟩ := toFeatS_own aSample (by first | omega | (have := bulkFeatS_len aSample; omega))
  have hl_ys_2 : ys_2.length ≤ 1048576 := by rw [hx2_0]; have := bulkFeatS_len aSample; omega
  obtain ⟨v_3, ix_3, c_3, hx3_0, hx3_1, hx3_2, hc3⟩ := specLearnSample_ok (Writer.mk aW.Band ts_1) aLabel ys_2 aShare (by subst_vars; exact ok_aW) (by subst_vars; first | exact ok_aLabel | omega)
  refine aw_r [(1, .lend [] [(7401, tOTrained 7411 7412 ts_1), (7411, tFTrainedBase ts_1), (7412, tFTrainedFeats ts_1)] [(true, .any)] false (.agg [I aW.Band, .arr 7401])), (4, .lend [] [(8301, tAFeat ys_2)] [(true, .any)] false (.arr 8301)), (6, .call [(false, .agg [I aW.Band, slTrained false ts_1]), (true, .any), (false, slFeat false ys_2), (true, .any)] true (.tup [agWriterT v_3, I ix_3, I c_3])), (11, .new 10)] [1, 2, 3, 4, 10, 11, 12] [4, 10] [Sv aLabel, slFeat false aSample, I aShare, .ref 4 0, .ref 10 0, I ix_3, I c_3] [some (bxWriter aW), some (bxWriterT v_3)] [CallOK Tryz.prog 19 [agWriter aW] (lookO []) false (.agg [I aW.Band, .arr 7401]) (lookO [(7401, tOTrained 7411 7412 ts_1), (7411, tFTrainedBase ts_1), (7412, tFTrainedFeats ts_1)]) ∧ True, CallOK Tryz.prog 20 [slFeat false aSample] (lookO []) false (.arr 8301) (lookO [(8301, tAFeat ys_2)]) ∧ True, Con Tryz.prog 18 [.agg [I aW.Band, slTrained false ts_1], Sv aLabel, slFeat false ys_2, I aShare] true (.tup [agWriterT v_3, I ix_3, I c_3]) ∧ ((valOf (I aW.Band) = valOf (I aW.Band)) ∧ ((false = true → true = true) ∧ 4 = 4 ∧ ts_1.length = ts_1.length ∧ ∀ i_, i_ < ts_1.length → AV.idsL ((fTrained false ts_1) i_) = [] ∧ leL (lookO [(7411, tFTrainedBase ts_1), (7412, tFTrainedFeats ts_1)]) true ((oTrained 7411 7412 ts_1) i_) ((fTrained false ts_1) i_)) ∧ ([] : List AV) = []) ∧ ((false = true → true = true) ∧ 3 = 3 ∧ ys_2.length = ys_2.length ∧ ∀ i_, i_ < ys_2.length → (fFeat ys_2) i_ = (fFeat ys_2) i_ ∨ (AV.idsL ((fFeat ys_2) i_) = [] ∧ leL (fun _ => none) false ((fFeat ys_2) i_) ((fFeat ys_2) i_))) ∧ True] hB ⟨⟨hc1, trivial⟩, ⟨hc2, trivial⟩, ⟨hc3, ⟨rfl, ⟨⟨(fun h => by cases h), rfl, rfl, oleTrained _ _ rfl rfl⟩, rfl⟩⟩, ⟨(fun h => by cases h), rfl, rfl, fun i _ => .inl rfl⟩, trivial⟩, trivial⟩ ?_
  refine ae_then ?_
  refine aR [(1, .lend [] [(7401, tOTrained 7411 7412 ts_1), (7411, tFTrainedBase ts_1), (7412, tFTrainedFeats ts_1)] [(true, .any)] false (.agg [I aW.Band, .arr 7401])), (2, .new 13)] [1, 2, 3, 4, 10, 11, 12, 13] [4, 10, 13, 7401, 7411, 7412] [Sv aLabel, slFeat false aSample, I aShare, .ref 4 0, .ref 10 0, I ix_3, I c_3, .ref 13 0] [some (bxWriter aW), some (bxWriterT v_3), some (.box [I aW.Band, .arr 7401]), some (tOTrained 7411 7412 ts_1), some (tFTrainedBase ts_1), some (tFTrainedFeats ts_1)] [CallOK Tryz.prog 19 [agWriter aW] (lookO []) false (.agg [I aW.Band, .arr 7401]) (lookO [(7401, tOTrained 7411 7412 ts_1), (7411, tFTrainedBase ts_1), (7412, tFTrainedFeats ts_1)]) ∧ True] hB ⟨⟨hc1, trivial⟩, trivial⟩ ?_
  refine aR [(1, .lend [] [(8301, tAFeat ys_2)] [(true, .any)] false (.arr 8301))] [1, 2, 3, 4, 10, 11, 12, 13, 14] [4, 10, 13, 7401, 7411, 7412, 8301] [Sv aLabel, slFeat false aSample, I aShare, .ref 4 0, .ref 10 0, I ix_3, I c_3, .ref 13 0, .arr 8301] [some (bxWriter aW), some (bxWriterT v_3), some (.box [I aW.Band, .arr 7401]), some (tOTrained 7411 7412 ts_1), some (tFTrainedBase ts_1), some (tFTrainedFeats ts_1), some (tAFeat ys_2)] [CallOK Tryz.prog 20 [slFeat false aSample] (lookO []) false (.arr 8301) (lookO [(8301, tAFeat ys_2)]) ∧ True] hB ⟨⟨hc2, trivial⟩, trivial⟩ ?_
  refine aw_seq ?_
  obtain ⟨ts_4, hx4_0, hc4⟩ := implLearnSample_ok (Writer.mk aW.Band ts_1) aLabel ys_2 aShare (by subst_vars; exact ok_aW) (by subst_vars; first | exact ok_aLabel | omega)
  refine aw_r [(4, .lendT [] [(7421, tOTrained 7431 7432 ts_4), (7431, tFTrainedBase ts_4), (7432, tFTrainedFeats ts_4)] [(false, .agg [I aW.Band, slTrained false ts_1]), (true, .any), (false, slFeat false ys_2), (true, .any)] false (.tup [.agg [I ((lsR (Writer.mk aW.Band ts_1) aLabel ys_2 aShare).1.Band), .arr 7421], I ((lsR (Writer.mk aW.Band ts_1) aLabel ys_2 aShare).2.1), I ((lsR (Writer.mk aW.Band ts_1) aLabel ys_2 aShare).2.2)])), (9, .new 15)] [1, 2, 3, 4, 10, 11, 12, 13, 14, 15, 16, 17] [4, 10, 13, 15, 7401, 7411, 7412, 7421, 7431, 7432, 8301] [Sv aLabel, slFeat false aSample, I aShare, .ref 4 0, .ref 10 0, I ix_3, I c_3, .ref 13 0, .arr 8301, .ref 15 0, I ((lsR (Writer.mk aW.Band ts_1) aLabel ys_2 aShare).2.1), I ((lsR (Writer.mk aW.Band ts_1) aLabel ys_2 aShare).2.2)] [some (bxWriter aW), some (bxWriterT v_3), some (.box [I aW.Band, .arr 7401]), some (.box [I ((lsR (Writer.mk aW.Band ts_1) aLabel ys_2 aShare).1.Band), .arr 7421]), some (tOTrained 7411 7412 ts_1), some (tFTrainedBase ts_1), some (tFTrainedFeats ts_1), some (tOTrained 7431 7432 ts_4), some (tFTrainedBase ts_4), some (tFTrainedFeats ts_4), some (tAFeat ys_2)] [CallOK Tryz.prog 8 [.agg [I aW.Band, slTrained false ts_1], Sv aLabel, slFeat false ys_2, I aShare] (lookO []) false (.tup [.agg [I ((lsR (Writer.mk aW.Band ts_1) aLabel ys_2 aShare).1.Band), .arr 7421], I ((lsR (Writer.mk aW.Band ts_1) aLabel ys_2 aShare).2.1), I ((lsR (Writer.mk aW.Band ts_1) aLabel ys_2 aShare).2.2)]) (lookO [(7421, tOTrained 7431 7432 ts_4), (7431, tFTrainedBase ts_4), (7432, tFTrainedFeats ts_4)]) ∧ allTag [(7421, tOTrained 7431 7432 ts_4), (7431, tFTrainedBase ts_4), (7432, tFTrainedFeats ts_4)] ∧ tagged true (.tup [.agg [I ((lsR (Writer.mk aW.Band ts_1) aLabel ys_2 aShare).1.Band), .arr 7421], I ((lsR (Writer.mk aW.Band ts_1) aLabel ys_2 aShare).2.1), I ((lsR (Writer.mk aW.Band ts_1) aLabel ys_2 aShare).2.2)]) ∧ ((valOf (I aW.Band) = valOf (I aW.Band)) ∧ ((false = true → true = true) ∧ 4 = 4 ∧ ts_1.length = ts_1.length ∧ ∀ i_, i_ < ts_1.length → AV.idsL ((fTrained false ts_1) i_) = [] ∧ leL (lookO [(7411, tFTrainedBase ts_1), (7412, tFTrainedFeats ts_1)]) true ((oTrained 7411 7412 ts_1) i_) ((fTrained false ts_1) i_)) ∧ ([] : List AV) = []) ∧ ((false = true → true = true) ∧ 3 = 3 ∧ ys_2.length = ys_2.length ∧ ∀ i_, i_ < ys_2.length → (fFeat ys_2) i_ = (fFeat ys_2) i_ ∨ (AV.idsL ((fFeat ys_2) i_) = [] ∧ leL (fun _ => none) false ((fFeat ys_2) i_) ((fFeat ys_2) i_))) ∧ True] hB ⟨⟨hc4, ⟨(by intro i_ _; simp [oTrained, oTrainedc, taggedL, tagged]), (fun _ _ _ _ => tagcFeat true _), (fun _ _ _ _ => tagcFeat true _), trivial⟩, (by simp [tagged, taggedL]), ⟨rfl, ⟨⟨(fun h => by cases h), rfl, rfl, oleTrained _ _ rfl rfl⟩, rfl⟩⟩, ⟨(fun h => by cases h), rfl, rfl, fun i _ => .inl rfl⟩, trivial⟩, trivial⟩ ?_
  refine ae_then ?_
  refine aw_seq ?_
  refine aR [(2, .call [(false, .agg [I ((lsR (Writer.mk aW.Band ts_1) aLabel ys_2 aShare).1.Band), slTrained false ts_4]), (false, agWriter v_3)] true (Bv true)), (7, .dec false), (12, .dec false)] [1, 2, 3, 4, 10, 11, 12, 13, 14, 15, 16, 17, 74] [4, 10, 13, 15, 7401, 7411, 7412, 7421, 7431, 7432, 8301] [Sv aLabel, slFeat false aSample, I aShare, .ref 4 0, .ref 10 0, I ix_3, I c_3, .ref 13 0, .arr 8301, .ref 15 0, I ((lsR (Writer.mk aW.Band ts_1) aLabel ys_2 aShare).2.1), I ((lsR (Writer.mk aW.Band ts_1) aLabel ys_2 aShare).2.2), Bv false] [some (bxWriter aW), some (bxWriterT v_3), some (.box [I aW.Band, .arr 7401]), some (.box [I ((lsR (Writer.mk aW.Band ts_1) aLabel ys_2 aShare).1.Band), .arr 7421]), some (tOTrained 7411 7412 ts_1), some (tFTrainedBase ts_1), some (tFTrainedFeats ts_1), some (tOTrained 7431 7432 ts_4), some (tFTrainedBase ts_4), some (tFTrainedFeats ts_4), some (tAFeat ys_2)] [Con Tryz.prog 21 [.agg [I ((lsR (Writer.mk aW.Band ts_1) aLabel ys_2 aShare).1.Band), slTrained false ts_4], agWriter v_3] true (Bv true) ∧ ((valOf (I ((lsR (Writer.mk aW.Band ts_1) aLabel ys_2 aShare).1.Band)) = valOf (I ((lsR (Writer.mk aW.Band ts_1) aLabel ys_2 aShare).1.Band))) ∧ ((false = true → true = true) ∧ 4 = 4 ∧ ts_4.length = ts_4.length ∧ ∀ i_, i_ < ts_4.length → AV.idsL ((fTrained false ts_4) i_) = [] ∧ leL (lookO [(7431, tFTrainedBase ts_4), (7432, tFTrainedFeats ts_4)]) true ((oTrained 7431 7432 ts_4) i_) ((fTrained false ts_4) i_)) ∧ ([] : List AV) = []) ∧ ((valOf (I v_3.Band) = valOf (I v_3.Band)) ∧ ((false = true → true = true) ∧ 4 = 4 ∧ v_3.Trained.length = v_3.Trained.length ∧ ∀ i_, i_ < v_3.Trained.length → (fTrained true v_3.Trained) i_ = (fTrained false v_3.Trained) i_ ∨ (AV.idsL ((fTrained false v_3.Trained) i_) = [] ∧ leL (fun _ => none) false ((fTrained true v_3.Trained) i_) ((fTrained false v_3.Trained) i_))) ∧ ([] : List AV) = []) ∧ True, ¬ (((lsR (Writer.mk aW.Band ts_1) aLabel ys_2 aShare).2.1) ≠ ix_3), ¬ (((lsR (Writer.mk aW.Band ts_1) aLabel ys_2 aShare).2.2) ≠ c_3)] hB ⟨⟨(con_bool (by subst_vars; exact same_self _) (eqWriter_ok (Writer.mk ((lsR (Writer.mk aW.Band ts_1) aLabel ys_2 aShare).1.Band) ts_4) v_3)), ⟨rfl, ⟨⟨(fun h => by cases h), rfl, rfl, oleTrained _ _ rfl rfl⟩, rfl⟩⟩, ⟨rfl, ⟨⟨(fun h => by cases h), rfl, rfl, fun i _ => .inr ⟨idsTrained _ _, leTrained _ _ _⟩⟩, rfl⟩⟩, trivial⟩, (fun hq => hq (by subst_vars; first | rfl | exact nRs_idem _ _ | exact (nRs_idem _ _).symm | (simp only [nRs_idem]; done))), (fun hq => hq (by subst_vars; first | rfl | exact nRs_idem _ _ | exact (nRs_idem _ _).symm | (simp only [nRs_idem]; done))), trivial⟩ ?_
  refine aw_false rfl ?_
  refine aw_skip ?_
  refine ae_then ?_
  refine aw_seq ?_
  refine aw_seq ?_
  refine aw_weak hB [(7401, 7901), (7411, 7902), (7412, 7903), (7901, 7401), (7902, 7411), (7903, 7412)] (T := [(1, Sv aLabel), (2, slFeat false aSample), (3, I aShare), (4, .ref 4 0), (10, .ref 10 0), (11, I ix_3), (12, I c_3), (13, .ref 13 0), (14, .arr 8301), (15, .ref 15 0), (16, I ((lsR (Writer.mk aW.Band ts_1) aLabel ys_2 aShare).2.1)), (17, I ((lsR (Writer.mk aW.Band ts_1) aLabel ys_2 aShare).2.2)), (74, Bv false)]) (O := [(4, bxWriter aW), (10, bxWriterT v_3), (13, .box [I aW.Band, .arr 7901]), (15, .box [I ((lsR (Writer.mk aW.Band ts_1) aLabel ys_2 aShare).1.Band), .arr 7421]), (7421, tOTrained 7431 7432 ts_4), (7431, tFTrainedBase ts_4), (7432, tFTrainedFeats ts_4), (7901, tOTrained 7902 7903 ts_1), (7902, tFTrainedBase ts_1), (7903, tFTrainedFeats ts_1), (8301, tAFeat ys_2)]) rfl (⟨.inl rfl, .inl rfl, .inl rfl, .inl rfl, .inl rfl, .inl rfl, .inl rfl, .inl rfl, .inl rfl, .inl rfl, .inl rfl, .inl rfl, .inl rfl, trivial⟩) (⟨.inl rfl, .inl rfl, .inl rfl, .inl rfl, .inl rfl, .inl rfl, .inl rfl, .inl rfl, .inl rfl, .inl rfl, .inl rfl, trivial⟩) ?_
  refine aw_r [(2, .lend [] [(7401, tOTrained 7411 7412 ts_1), (7411, tFTrainedBase ts_1), (7412, tFTrainedFeats ts_1)] [(true, .any)] false (.agg [I aW.Band, .arr 7401])), (3, .call [(false, .agg [I aW.Band, slTrained false ts_1]), (false, .agg [I aW.Band, slTrained false ts_1])] true (Bv true))] [1, 2, 3, 4, 10, 11, 12, 13, 14, 15, 16, 17, 79] [4, 10, 13, 15, 7421, 7431, 7432, 7901, 7902, 7903, 8301] [Sv aLabel, slFeat false aSample, I aShare, .ref 4 0, .ref 10 0, I ix_3, I c_3, .ref 13 0, .arr 8301, .ref 15 0, I ((lsR (Writer.mk aW.Band ts_1) aLabel ys_2 aShare).2.1), I ((lsR (Writer.mk aW.Band ts_1) aLabel ys_2 aShare).2.2), Bv false] [some (bxWriter aW), some (bxWriterT v_3), some (.box [I aW.Band, .arr 7901]), some (.box [I ((lsR (Writer.mk aW.Band ts_1) aLabel ys_2 aShare).1.Band), .arr 7421]), some (tOTrained 7431 7432 ts_4), some (tFTrainedBase ts_4), some (tFTrainedFeats ts_4), some (tOTrained 7902 7903 ts_1), some (tFTrainedBase ts_1), some (tFTrainedFeats ts_1), some (tAFeat ys_2)] [CallOK Tryz.prog 19 [agWriter aW] (lookO []) false (.agg [I aW.Band, .arr 7401]) (lookO [(7401, tOTrained 7411 7412 ts_1), (7411, tFTrainedBase ts_1), (7412, tFTrainedFeats ts_1)]) ∧ True, Con Tryz.prog 21 [.agg [I aW.Band, slTrained false ts_1], .agg [I aW.Band, slTrained false ts_1]] true (Bv true) ∧ ((valOf (I aW.Band) = valOf (I aW.Band)) ∧ ((false = true → true = true) ∧ 4 = 4 ∧ ts_1.length = ts_1.length ∧ ∀ i_, i_ < ts_1.length → AV.idsL ((fTrained false ts_1) i_) = [] ∧ leL (lookO [(7902, tFTrainedBase ts_1), (7903, tFTrainedFeats ts_1)]) true ((oTrained 7902 7903 ts_1) i_) ((fTrained false ts_1) i_)) ∧ ([] : List AV) = []) ∧ ((valOf (I aW.Band) = valOf (I aW.Band)) ∧ ((false = true → true = true) ∧ 4 = 4 ∧ ts_1.length = ts_1.length ∧ ∀ i_, i_ < ts_1.length → AV.idsL ((fTrained false ts_1) i_) = [] ∧ leL (lookO [(7411, tFTrainedBase ts_1), (7412, tFTrainedFeats ts_1)]) true ((oTrained 7411 7412 ts_1) i_) ((fTrained false ts_1) i_)) ∧ ([] : List AV) = []) ∧ True] hB ⟨⟨hc1, trivial⟩, ⟨(con_bool (by subst_vars; exact same_self _) (eqWriter_ok (Writer.mk aW.Band ts_1) (Writer.mk aW.Band ts_1))), ⟨rfl, ⟨⟨(fun h => by cases h), rfl, rfl, oleTrained _ _ rfl rfl⟩, rfl⟩⟩, ⟨rfl, ⟨⟨(fun h => by cases h), rfl, rfl, oleTrained _ _ rfl rfl⟩, rfl⟩⟩, trivial⟩, trivial⟩ ?_
  refine ae_then ?_
  refine aw_false rfl ?_
  refine aw_skip ?_
  refine ae_then ?_
  refine aw_seq ?_
  refine aw_seq ?_
  refine aw_weak hB [(7904, 8301)] (T := [(1, Sv aLabel), (2, slFeat false aSample), (3, I aShare), (4, .ref 4 0), (10, .ref 10 0), (11, I ix_3), (12, I c_3), (13, .ref 13 0), (14, .arr 7904), (15, .ref 15 0), (16, I ((lsR (Writer.mk aW.Band ts_1) aLabel ys_2 aShare).2.1)), (17, I ((lsR (Writer.mk aW.Band ts_1) aLabel ys_2 aShare).2.2)), (79, Bv false)]) (O := [(4, bxWriter aW), (10, bxWriterT v_3), (13, .box [I aW.Band, .arr 7901]), (15, .box [I ((lsR (Writer.mk aW.Band ts_1) aLabel ys_2 aShare).1.Band), .arr 7421]), (7421, tOTrained 7431 7432 ts_4), (7431, tFTrainedBase ts_4), (7432, tFTrainedFeats ts_4), (7901, tOTrained 7902 7903 ts_1), (7902, tFTrainedBase ts_1), (7903, tFTrainedFeats ts_1), (7904, tAFeat ys_2)]) rfl (⟨.inl rfl, .inl rfl, .inl rfl, .inl rfl, .inl rfl, .inl rfl, .inl rfl, .inl rfl, .inl rfl, .inl rfl, .inl rfl, .inl rfl, .inl rfl, trivial⟩) (⟨.inl rfl, .inl rfl, .inl rfl, .inl rfl, .inl rfl, .inl rfl, .inl rfl, .inl rfl, .inl rfl, .inl rfl, .inl rfl, trivial⟩) ?_
  refine aw_r [(2, .lend [] [(8301, tAFeat ys_2)] [(true, .any)] false (.arr 8301)), (3, .call [(false, slFeat false ys_2), (false, slFeat false ys_2)] true (Bv true))] [1, 2, 3, 4, 10, 11, 12, 13, 14, 15, 16, 17, 84] [4, 10, 13, 15, 7421, 7431, 7432, 7901, 7902, 7903, 7904] [Sv aLabel, slFeat false aSample, I aShare, .ref 4 0, .ref 10 0, I ix_3, I c_3, .ref 13 0, .arr 7904, .ref 15 0, I ((lsR (Writer.mk aW.Band ts_1) aLabel ys_2 aShare).2.1), I ((lsR (Writer.mk aW.Band ts_1) aLabel ys_2 aShare).2.2), Bv false] [some (bxWriter aW), some (bxWriterT v_3), some (.box [I aW.Band, .arr 7901]), some (.box [I ((lsR (Writer.mk aW.Band ts_1) aLabel ys_2 aShare).1.Band), .arr 7421]), some (tOTrained 7431 7432 ts_4), some (tFTrainedBase ts_4), some (tFTrainedFeats ts_4), some (tOTrained 7902 7903 ts_1), some (tFTrainedBase ts_1), some (tFTrainedFeats ts_1), some (tAFeat ys_2)] [CallOK Tryz.prog 20 [slFeat false aSample] (lookO []) false (.arr 8301) (lookO [(8301, tAFeat ys_2)]) ∧ True, Con Tryz.prog 22 [slFeat false ys_2, slFeat false ys_2] true (Bv true) ∧ ((false = true → true = true) ∧ 3 = 3 ∧ ys_2.length = ys_2.length ∧ ∀ i_, i_ < ys_2.length → (fFeat ys_2) i_ = (fFeat ys_2) i_ ∨ (AV.idsL ((fFeat ys_2) i_) = [] ∧ leL (fun _ => none) false ((fFeat ys_2) i_) ((fFeat ys_2) i_))) ∧ ((false = true → true = true) ∧ 3 = 3 ∧ ys_2.length = ys_2.length ∧ ∀ i_, i_ < ys_2.length → (fFeat ys_2) i_ = (fFeat ys_2) i_ ∨ (AV.idsL ((fFeat ys_2) i_) = [] ∧ leL (fun _ => none) false ((fFeat ys_2) i_) ((fFeat ys_2) i_))) ∧ True] hB ⟨⟨hc2, trivial⟩, ⟨(con_bool (by subst_vars; exact same_self _) (eqFeatS_ok ys_2 ys_2)), ⟨(fun h => by cases h), rfl, rfl, fun i _ => .inl rfl⟩, ⟨(fun h => by cases h), rfl, rfl, fun i _ => .inl rfl⟩, trivial⟩, trivial⟩ ?_
  refine ae_then ?_
  refine aw_false rfl ?_
  refine aw_skip ?_
  refine ae_then ?_
  refine aR [] [1, 2, 3, 4, 10, 11, 12, 13, 14, 15, 16, 17, 18] [4, 10, 13, 15, 7421, 7431, 7432, 7901, 7902, 7903, 7904] [Sv aLabel, slFeat false aSample, I aShare, .ref 4 0, .ref 10 0, I ix_3, I c_3, .ref 13 0, .arr 7904, .ref 15 0, I ((lsR (Writer.mk aW.Band ts_1) aLabel ys_2 aShare).2.1), I ((lsR (Writer.mk aW.Band ts_1) aLabel ys_2 aShare).2.2), I 1] [some (bxWriter aW), some (bxWriterT v_3), some (.box [I aW.Band, .arr 7901]), some (.box [I ((lsR (Writer.mk aW.Band ts_1) aLabel ys_2 aShare).1.Band), .arr 7421]), some (tOTrained 7431 7432 ts_4), some (tFTrainedBase ts_4), some (tFTrainedFeats ts_4), some (tOTrained 7902 7903 ts_1), some (tFTrainedBase ts_1), some (tFTrainedFeats ts_1), some (tAFeat ys_2)] [] hB trivial ?_
  refine aw_seq ?_
  refine aw_weak hB [(7401, 7901), (7411, 7902), (7412, 7903), (7901, 7401), (7902, 7411), (7903, 7412)] (T := [(1, Sv aLabel), (2, slFeat false aSample), (3, I aShare), (4, .ref 4 0), (10, .ref 10 0), (11, I ix_3), (12, I c_3), (13, .ref 13 0), (14, .arr 7904), (15, .ref 15 0), (16, I ((lsR (Writer.mk aW.Band ts_1) aLabel ys_2 aShare).2.1)), (17, I ((lsR (Writer.mk aW.Band ts_1) aLabel ys_2 aShare).2.2)), (18, I 1)]) (O := [(4, bxWriter aW), (10, bxWriterT v_3), (13, .box [I aW.Band, .arr 7401]), (15, .box [I ((lsR (Writer.mk aW.Band ts_1) aLabel ys_2 aShare).1.Band), .arr 7421]), (7401, tOTrained 7411 7412 ts_1), (7411, tFTrainedBase ts_1), (7412, tFTrainedFeats ts_1), (7421, tOTrained 7431 7432 ts_4), (7431, tFTrainedBase ts_4), (7432, tFTrainedFeats ts_4), (7904, tAFeat ys_2)]) rfl (⟨.inl rfl, .inl rfl, .inl rfl, .inl rfl, .inl rfl, .inl rfl, .inl rfl, .inl rfl, .inl rfl, .inl rfl, .inl rfl, .inl rfl, .inl rfl, trivial⟩) (⟨.inl rfl, .inl rfl, .inl rfl, .inl rfl, .inl rfl, .inl rfl, .inl rfl, .inl rfl, .inl rfl, .inl rfl, .inl rfl, trivial⟩) ?_
  obtain ⟨v_5, alTrained_5, hx5_0, hx5_1, hc5⟩ := markWriter_ok (Writer.mk aW.Band ts_1) 1 (by subst_vars; first | exact ⟨by omega, lsR_n _ _ _ _⟩ | (have h_ := nRs_bd aW.Trained 1; exact ⟨by omega, Int.le_trans h_.2 (by omega)⟩))
  have hv_v_5 : 1 ≤ v_5 ∧ v_5 ≤ 4000000 := by rw [hx5_0]; subst_vars; first | exact ⟨(nRs_bd _ 1).1, lsR_n _ _ _ _⟩ | (have h_ := nRs_bd aW.Trained 1; exact ⟨h_.1, Int.le_trans h_.2 (by omega)⟩)
  refine aw_r [(2, .lend [(7401, tOTrained 7411 7412 ts_1, tOTrained 7411 7412 alTrained_5), (7411, tFTrainedBase ts_1, tFTrainedBase alTrained_5), (7412, tFTrainedFeats ts_1, tFTrainedFeats alTrained_5)] [] [(true, .any), (true, .any)] true (I v_5))] [1, 2, 3, 4, 10, 11, 12, 14, 15, 16, 17, 18] [4, 10, 15, 7421, 7431, 7432, 7904] [Sv aLabel, slFeat false aSample, I aShare, .ref 4 0, .ref 10 0, I ix_3, I c_3, .arr 7904, .ref 15 0, I ((lsR (Writer.mk aW.Band ts_1) aLabel ys_2 aShare).2.1), I ((lsR (Writer.mk aW.Band ts_1) aLabel ys_2 aShare).2.2), I v_5] [some (bxWriter aW), some (bxWriterT v_3), some (.box [I ((lsR (Writer.mk aW.Band ts_1) aLabel ys_2 aShare).1.Band), .arr 7421]), some (tOTrained 7431 7432 ts_4), some (tFTrainedBase ts_4), some (tFTrainedFeats ts_4), some (tAFeat ys_2)] [CallOK Tryz.prog 23 [.agg [I aW.Band, .arr 7401], I 1] (lookO [(7401, tOTrained 7411 7412 ts_1), (7411, tFTrainedBase ts_1), (7412, tFTrainedFeats ts_1)]) true (I v_5) (lookO [(7401, tOTrained 7411 7412 alTrained_5), (7411, tFTrainedBase alTrained_5), (7412, tFTrainedFeats alTrained_5)]) ∧ (((tOTrained 7411 7412 ts_1 : Ob) = tOTrained 7411 7412 ts_1 ∨ obLe noOb true (tOTrained 7411 7412 ts_1) (tOTrained 7411 7412 ts_1)) ∧ taggedO false (tOTrained 7411 7412 ts_1)) ∧ (((tFTrainedBase ts_1 : Ob) = tFTrainedBase ts_1 ∨ obLe noOb true (tFTrainedBase ts_1) (tFTrainedBase ts_1)) ∧ taggedO false (tFTrainedBase ts_1)) ∧ (((tFTrainedFeats ts_1 : Ob) = tFTrainedFeats ts_1 ∨ obLe noOb true (tFTrainedFeats ts_1) (tFTrainedFeats ts_1)) ∧ taggedO false (tFTrainedFeats ts_1)) ∧ True] hB ⟨⟨hc5, ⟨.inl rfl, (by intro i_ _; simp [oTrained, oTrainedc, taggedL, tagged])⟩, ⟨.inl rfl, (fun _ _ _ _ => tagcFeat false _)⟩, ⟨.inl rfl, (fun _ _ _ _ => tagcFeat false _)⟩, trivial⟩, trivial⟩ ?_
  refine ae_then ?_
  refine aw_seq ?_
  refine aw_weak hB [(7301, 7904)] (T := [(1, Sv aLabel), (2, slFeat false aSample), (3, I aShare), (4, .ref 4 0), (10, .ref 10 0), (11, I ix_3), (12, I c_3), (14, .arr 7301), (15, .ref 15 0), (16, I ((lsR (Writer.mk aW.Band ts_1) aLabel ys_2 aShare).2.1)), (17, I ((lsR (Writer.mk aW.Band ts_1) aLabel ys_2 aShare).2.2)), (18, I v_5)]) (O := [(4, bxWriter aW), (10, bxWriterT v_3), (15, .box [I ((lsR (Writer.mk aW.Band ts_1) aLabel ys_2 aShare).1.Band), .arr 7421]), (7301, tAFeat ys_2), (7421, tOTrained 7431 7432 ts_4), (7431, tFTrainedBase ts_4), (7432, tFTrainedFeats ts_4)]) rfl (⟨.inl rfl, .inl rfl, .inl rfl, .inl rfl, .inl rfl, .inl rfl, .inl rfl, .inl rfl, .inl rfl, .inl rfl, .inl rfl, .inl rfl, trivial⟩) (⟨.inl rfl, .inl rfl, .inl rfl, .inl rfl, .inl rfl, .inl rfl, .inl rfl, trivial⟩) ?_
  obtain ⟨v_6, al'_6, hx6_0, hx6_1, hc6⟩ := markFeatS0_ok ys_2 v_5 (by omega)
  refine aw_r [(2, .lend [(7301, tAFeat ys_2, tAFeat al'_6)] [] [(true, .any), (true, .any)] true (I v_6))] [1, 2, 3, 4, 10, 11, 12, 15, 16, 17, 18] [4, 10, 15, 7421, 7431, 7432] [Sv aLabel, slFeat false aSample, I aShare, .ref 4 0, .ref 10 0, I ix_3, I c_3, .ref 15 0, I ((lsR (Writer.mk aW.Band ts_1) aLabel ys_2 aShare).2.1), I ((lsR (Writer.mk aW.Band ts_1) aLabel ys_2 aShare).2.2), I v_6] [some (bxWriter aW), some (bxWriterT v_3), some (.box [I ((lsR (Writer.mk aW.Band ts_1) aLabel ys_2 aShare).1.Band), .arr 7421]), some (tOTrained 7431 7432 ts_4), some (tFTrainedBase ts_4), some (tFTrainedFeats ts_4)] [CallOK Tryz.prog 24 [.arr 7301, I v_5] (lookO [(7301, tAFeat ys_2)]) true (I v_6) (lookO [(7301, tAFeat al'_6)]) ∧ (((tAFeat ys_2 : Ob) = tAFeat ys_2 ∨ obLe noOb true (tAFeat ys_2) (tAFeat ys_2)) ∧ taggedO false (tAFeat ys_2)) ∧ True] hB ⟨⟨hc6, ⟨.inl rfl, fun _ _ => tagcFeat false _⟩, trivial⟩, trivial⟩ ?_
  refine ae_then ?_
  refine aw_seq ?_
  refine aR [(1, .dec false), (5, .call [(false, .agg [I ((lsR (Writer.mk aW.Band ts_1) aLabel ys_2 aShare).1.Band), slTrained false ts_4]), (false, agWriter v_3)] true (Bv true)), (11, .dec false), (16, .dec false)] [1, 2, 3, 4, 10, 11, 12, 15, 108] [4, 10, 15, 7421, 7431, 7432] [Sv aLabel, slFeat false aSample, I aShare, .ref 4 0, .ref 10 0, I ix_3, I c_3, .ref 15 0, Bv false] [some (bxWriter aW), some (bxWriterT v_3), some (.box [I ((lsR (Writer.mk aW.Band ts_1) aLabel ys_2 aShare).1.Band), .arr 7421]), some (tOTrained 7431 7432 ts_4), some (tFTrainedBase ts_4), some (tFTrainedFeats ts_4)] [¬ (v_6 < 0), Con Tryz.prog 21 [.agg [I ((lsR (Writer.mk aW.Band ts_1) aLabel ys_2 aShare).1.Band), slTrained false ts_4], agWriter v_3] true (Bv true) ∧ ((valOf (I ((lsR (Writer.mk aW.Band ts_1) aLabel ys_2 aShare).1.Band)) = valOf (I ((lsR (Writer.mk aW.Band ts_1) aLabel ys_2 aShare).1.Band))) ∧ ((false = true → true = true) ∧ 4 = 4 ∧ ts_4.length = ts_4.length ∧ ∀ i_, i_ < ts_4.length → AV.idsL ((fTrained false ts_4) i_) = [] ∧ leL (lookO [(7431, tFTrainedBase ts_4), (7432, tFTrainedFeats ts_4)]) true ((oTrained 7431 7432 ts_4) i_) ((fTrained false ts_4) i_)) ∧ ([] : List AV) = []) ∧ ((valOf (I v_3.Band) = valOf (I v_3.Band)) ∧ ((false = true → true = true) ∧ 4 = 4 ∧ v_3.Trained.length = v_3.Trained.length ∧ ∀ i_, i_ < v_3.Trained.length → (fTrained true v_3.Trained) i_ = (fTrained false v_3.Trained) i_ ∨ (AV.idsL ((fTrained false v_3.Trained) i_) = [] ∧ leL (fun _ => none) false ((fTrained true v_3.Trained) i_) ((fTrained false v_3.Trained) i_))) ∧ ([] : List AV) = []) ∧ True, ¬ (((lsR (Writer.mk aW.Band ts_1) aLabel ys_2 aShare).2.1) ≠ ix_3), ¬ (((lsR (Writer.mk aW.Band ts_1) aLabel ys_2 aShare).2.2) ≠ c_3)] hB ⟨(by subst_vars; first | omega | exact Int.not_lt.2 (Int.le_trans (by omega) (nRs_lo _ _)) | exact Int.not_lt.2 (Int.le_trans (by omega) (nTs_lo _ _))), ⟨(con_bool (by subst_vars; exact same_self _) (eqWriter_ok (Writer.mk ((lsR (Writer.mk aW.Band ts_1) aLabel ys_2 aShare).1.Band) ts_4) v_3)), ⟨rfl, ⟨⟨(fun h => by cases h), rfl, rfl, oleTrained _ _ rfl rfl⟩, rfl⟩⟩, ⟨rfl, ⟨⟨(fun h => by cases h), rfl, rfl, fun i _ => .inr ⟨idsTrained _ _, leTrained _ _ _⟩⟩, rfl⟩⟩, trivial⟩, (fun hq => hq (by subst_vars; first | rfl | exact nRs_idem _ _ | exact (nRs_idem _ _).symm | (simp only [nRs_idem]; done))), (fun hq => hq (by subst_vars; first | rfl | exact nRs_idem _ _ | exact (nRs_idem _ _).symm | (simp only [nRs_idem]; done))), trivial⟩ ?_
  refine aw_false rfl ?_
  refine aw_skip ?_
  refine ae_then ?_
  refine aR [] [1, 2, 3, 4, 10, 11, 12, 15, 19] [4, 10, 15, 7421, 7431, 7432] [Sv aLabel, slFeat false aSample, I aShare, .ref 4 0, .ref 10 0, I ix_3, I c_3, .ref 15 0, I 1] [some (bxWriter aW), some (bxWriterT v_3), some (.box [I ((lsR (Writer.mk aW.Band ts_1) aLabel ys_2 aShare).1.Band), .arr 7421]), some (tOTrained 7431 7432 ts_4), some (tFTrainedBase ts_4), some (tFTrainedFeats ts_4)] [] hB trivial ?_
  refine aw_seq ?_
  refine aw_weak hB [(7401, 7421), (7411, 7431), (7412, 7432), (7421, 7401), (7431, 7411), (7432, 7412)] (T := [(1, Sv aLabel), (2, slFeat false aSample), (3, I aShare), (4, .ref 4 0), (10, .ref 10 0), (11, I ix_3), (12, I c_3), (15, .ref 15 0), (19, I 1)]) (O := [(4, bxWriter aW), (10, bxWriterT v_3), (15, .box [I ((lsR (Writer.mk aW.Band ts_1) aLabel ys_2 aShare).1.Band), .arr 7401]), (7401, tOTrained 7411 7412 ts_4), (7411, tFTrainedBase ts_4), (7412, tFTrainedFeats ts_4)]) rfl (⟨.inl rfl, .inl rfl, .inl rfl, .inl rfl, .inl rfl, .inl rfl, .inl rfl, .inl rfl, .inl rfl, trivial⟩) (⟨.inl rfl, .inl rfl, .inl rfl, .inl rfl, .inl rfl, .inl rfl, trivial⟩) ?_
  obtain ⟨v_7, alTrained_7, hx7_0, hx7_1, hc7⟩ := markWriter_ok (Writer.mk ((lsR (Writer.mk aW.Band ts_1) aLabel ys_2 aShare).1.Band) ts_4) 1 (by subst_vars; first | exact ⟨by omega, lsR_n _ _ _ _⟩ | (have h_ := nRs_bd aW.Trained 1; exact ⟨by omega, Int.le_trans h_.2 (by omega)⟩))
  have hv_v_7 : 1 ≤ v_7 ∧ v_7 ≤ 4000000 := by rw [hx7_0]; subst_vars; first | exact ⟨(nRs_bd _ 1).1, lsR_n _ _ _ _⟩ | (have h_ := nRs_bd aW.Trained 1; exact ⟨h_.1, Int.le_trans h_.2 (by omega)⟩)
  refine aw_r [(2, .lend [(7401, tOTrained 7411 7412 ts_4, tOTrained 7411 7412 alTrained_7), (7411, tFTrainedBase ts_4, tFTrainedBase alTrained_7), (7412, tFTrainedFeats ts_4, tFTrainedFeats alTrained_7)] [] [(true, .any), (true, .any)] true (I v_7))] [1, 2, 3, 4, 10, 11, 12, 15, 19] [4, 10, 15, 7401, 7411, 7412] [Sv aLabel, slFeat false aSample, I aShare, .ref 4 0, .ref 10 0, I ix_3, I c_3, .ref 15 0, I v_7] [some (bxWriter aW), some (bxWriterT v_3), some (.box [I ((lsR (Writer.mk aW.Band ts_1) aLabel ys_2 aShare).1.Band), .arr 7401]), some (tOTrained 7411 7412 alTrained_7), some (tFTrainedBase alTrained_7), some (tFTrainedFeats alTrained_7)] [CallOK Tryz.prog 23 [.agg [I ((lsR (Writer.mk aW.Band ts_1) aLabel ys_2 aShare).1.Band), .arr 7401], I 1] (lookO [(7401, tOTrained 7411 7412 ts_4), (7411, tFTrainedBase ts_4), (7412, tFTrainedFeats ts_4)]) true (I v_7) (lookO [(7401, tOTrained 7411 7412 alTrained_7), (7411, tFTrainedBase alTrained_7), (7412, tFTrainedFeats alTrained_7)]) ∧ (((tOTrained 7411 7412 ts_4 : Ob) = tOTrained 7411 7412 ts_4 ∨ obLe noOb true (tOTrained 7411 7412 ts_4) (tOTrained 7411 7412 ts_4)) ∧ taggedO false (tOTrained 7411 7412 ts_4)) ∧ (((tFTrainedBase ts_4 : Ob) = tFTrainedBase ts_4 ∨ obLe noOb true (tFTrainedBase ts_4) (tFTrainedBase ts_4)) ∧ taggedO false (tFTrainedBase ts_4)) ∧ (((tFTrainedFeats ts_4 : Ob) = tFTrainedFeats ts_4 ∨ obLe noOb true (tFTrainedFeats ts_4) (tFTrainedFeats ts_4)) ∧ taggedO false (tFTrainedFeats ts_4)) ∧ True] hB ⟨⟨hc7, ⟨.inl rfl, (by intro i_ _; simp [oTrained, oTrainedc, taggedL, tagged])⟩, ⟨.inl rfl, (fun _ _ _ _ => tagcFeat false _)⟩, ⟨.inl rfl, (fun _ _ _ _ => tagcFeat false _)⟩, trivial⟩, trivial⟩ ?_
  refine ae_then ?_
  refine aR [] [1, 2, 3, 4, 10, 11, 12, 15, 19, 20] [4, 10, 15, 7401, 7411, 7412] [Sv aLabel, slFeat false aSample, I aShare, .ref 4 0, .ref 10 0, I ix_3, I c_3, .ref 15 0, I v_7, I 1] [some (bxWriter aW), some (bxWriterT v_3), some (.box [I ((lsR (Writer.mk aW.Band ts_1) aLabel ys_2 aShare).1.Band), .arr 7401]), some (tOTrained 7411 7412 alTrained_7), some (tFTrainedBase alTrained_7), some (tFTrainedFeats alTrained_7)] [] hB trivial ?_
  refine aR [(2, .call [(false, .agg [I ((lsR (Writer.mk aW.Band ts_1) aLabel ys_2 aShare).1.Band), slTrained false alTrained_7]), (true, .any)] true (I (nRs 1 (Writer.mk ((lsR (Writer.mk aW.Band ts_1) aLabel ys_2 aShare).1.Band) alTrained_7).Trained)))] [1, 2, 3, 4, 10, 11, 12, 15, 19, 20] [4, 10, 15, 7401, 7411, 7412] [Sv aLabel, slFeat false aSample, I aShare, .ref 4 0, .ref 10 0, I ix_3, I c_3, .ref 15 0, I v_7, I (nRs 1 (Writer.mk ((lsR (Writer.mk aW.Band ts_1) aLabel ys_2 aShare).1.Band) alTrained_7).Trained)] [some (bxWriter aW), some (bxWriterT v_3), some (.box [I ((lsR (Writer.mk aW.Band ts_1) aLabel ys_2 aShare).1.Band), .arr 7401]), some (tOTrained 7411 7412 alTrained_7), some (tFTrainedBase alTrained_7), some (tFTrainedFeats alTrained_7)] [Con Tryz.prog 25 [.agg [I ((lsR (Writer.mk aW.Band ts_1) aLabel ys_2 aShare).1.Band), slTrained false alTrained_7], I 1] true (I (nRs 1 (Writer.mk ((lsR (Writer.mk aW.Band ts_1) aLabel ys_2 aShare).1.Band) alTrained_7).Trained)) ∧ ((valOf (I ((lsR (Writer.mk aW.Band ts_1) aLabel ys_2 aShare).1.Band)) = valOf (I ((lsR (Writer.mk aW.Band ts_1) aLabel ys_2 aShare).1.Band))) ∧ ((false = true → true = true) ∧ 4 = 4 ∧ alTrained_7.length = alTrained_7.length ∧ ∀ i_, i_ < alTrained_7.length → AV.idsL ((fTrained false alTrained_7) i_) = [] ∧ leL (lookO [(7411, tFTrainedBase alTrained_7), (7412, tFTrainedFeats alTrained_7)]) true ((oTrained 7411 7412 alTrained_7) i_) ((fTrained false alTrained_7) i_)) ∧ ([] : List AV) = []) ∧ True] hB ⟨⟨(heldWriter_ok (Writer.mk ((lsR (Writer.mk aW.Band ts_1) aLabel ys_2 aShare).1.Band) alTrained_7) 1 (by subst_vars; exact ⟨by omega, by rw [nRs_idem]; exact lsR_n _ _ _ _⟩) (by subst_vars; exact (mRs_idem _ _).symm)), ⟨rfl, ⟨⟨(fun h => by cases h), rfl, rfl, oleTrained _ _ rfl rfl⟩, rfl⟩⟩, trivial⟩, trivial⟩ ?_
  refine aw_seq ?_
  refine aR [(1, .dec false)] [1, 2, 3, 4, 10, 11, 12, 15, 19, 20, 116] [4, 10, 15, 7401, 7411, 7412] [Sv aLabel, slFeat false aSample, I aShare, .ref 4 0, .ref 10 0, I ix_3, I c_3, .ref 15 0, I v_7, I (nRs 1 (Writer.mk ((lsR (Writer.mk aW.Band ts_1) aLabel ys_2 aShare).1.Band) alTrained_7).Trained), Bv false] [some (bxWriter aW), some (bxWriterT v_3), some (.box [I ((lsR (Writer.mk aW.Band ts_1) aLabel ys_2 aShare).1.Band), .arr 7401]), some (tOTrained 7411 7412 alTrained_7), some (tFTrainedBase alTrained_7), some (tFTrainedFeats alTrained_7)] [¬ ((nRs 1 (Writer.mk ((lsR (Writer.mk aW.Band ts_1) aLabel ys_2 aShare).1.Band) alTrained_7).Trained) < 0)] hB ⟨(by subst_vars; first | omega | exact Int.not_lt.2 (Int.le_trans (by omega) (nRs_lo _ _)) | exact Int.not_lt.2 (Int.le_trans (by omega) (nTs_lo _ _))), trivial⟩ ?_
  refine aw_false rfl ?_
  refine aw_skip ?_
  refine ae_then ?_
  refine aw_seq ?_
  refine aR [(2, .dec false)] [1, 2, 3, 4, 10, 11, 12, 15, 19, 119] [4, 10, 15, 7401, 7411, 7412] [Sv aLabel, slFeat false aSample, I aShare, .ref 4 0, .ref 10 0, I ix_3, I c_3, .ref 15 0, I v_7, Bv false] [some (bxWriter aW), some (bxWriterT v_3), some (.box [I ((lsR (Writer.mk aW.Band ts_1) aLabel ys_2 aShare).1.Band), .arr 7401]), some (tOTrained 7411 7412 alTrained_7), some (tFTrainedBase alTrained_7), some (tFTrainedFeats alTrained_7)] [¬ ((nRs 1 (Writer.mk ((lsR (Writer.mk aW.Band ts_1) aLabel ys_2 aShare).1.Band) alTrained_7).Trained) ≠ v_7)] hB ⟨(fun hq => hq (by subst_vars; first | rfl | exact nRs_idem _ _ | exact (nRs_idem _ _).symm | (simp only [nRs_idem]; done))), trivial⟩ ?_
  refine aw_false rfl ?_
  refine aw_skip ?_
  refine ae_then ?_
  refine aw_seq ?_
  refine aw_weak hB [(7401, 7905), (7411, 7906), (7412, 7907), (7905, 7401), (7906, 7411), (7907, 7412)] (T := [(1, Sv aLabel), (2, slFeat false aSample), (3, I aShare), (4, .ref 4 0), (10, .ref 10 0), (11, I ix_3), (12, I c_3), (15, .ref 15 0), (19, I v_7), (119, Bv false)]) (O := [(4, bxWriter aW), (10, bxWriterT v_3), (15, .box [I ((lsR (Writer.mk aW.Band ts_1) aLabel ys_2 aShare).1.Band), .arr 7905]), (7905, tOTrained 7906 7907 alTrained_7), (7906, tFTrainedBase alTrained_7), (7907, tFTrainedFeats alTrained_7)]) rfl (⟨.inl rfl, .inl rfl, .inl rfl, .inl rfl, .inl rfl, .inl rfl, .inl rfl, .inl rfl, .inl rfl, .inl rfl, trivial⟩) (⟨.inl rfl, .inl rfl, .inl rfl, .inl rfl, .inl rfl, .inl rfl, trivial⟩) ?_
  refine aw_r [(1, .lend [] [(7401, tOTrained 7411 7412 ts_1), (7411, tFTrainedBase ts_1), (7412, tFTrainedFeats ts_1)] [(true, .any)] false (.agg [I aW.Band, .arr 7401])), (4, .lend [] [(8301, tAFeat ys_2)] [(true, .any)] false (.arr 8301)), (6, .lendT [] [(7421, tOTrained 7431 7432 ts_4), (7431, tFTrainedBase ts_4), (7432, tFTrainedFeats ts_4)] [(false, .agg [I aW.Band, slTrained false ts_1]), (true, .any), (false, slFeat false ys_2), (true, .any)] false (.tup [.agg [I ((lsR (Writer.mk aW.Band ts_1) aLabel ys_2 aShare).1.Band), .arr 7421], I ((lsR (Writer.mk aW.Band ts_1) aLabel ys_2 aShare).2.1), I ((lsR (Writer.mk aW.Band ts_1) aLabel ys_2 aShare).2.2)])), (11, .new 21)] [10, 11, 12, 15, 19, 21, 22, 23] [10, 15, 21, 7421, 7431, 7432, 7905, 7906, 7907] [.ref 10 0, I ix_3, I c_3, .ref 15 0, I v_7, .ref 21 0, I ((lsR (Writer.mk aW.Band ts_1) aLabel ys_2 aShare).2.1), I ((lsR (Writer.mk aW.Band ts_1) aLabel ys_2 aShare).2.2)] [some (bxWriterT v_3), some (.box [I ((lsR (Writer.mk aW.Band ts_1) aLabel ys_2 aShare).1.Band), .arr 7905]), some (.box [I ((lsR (Writer.mk aW.Band ts_1) aLabel ys_2 aShare).1.Band), .arr 7421]), some (tOTrained 7431 7432 ts_4), some (tFTrainedBase ts_4), some (tFTrainedFeats ts_4), some (tOTrained 7906 7907 alTrained_7), some (tFTrainedBase alTrained_7), some (tFTrainedFeats alTrained_7)] [CallOK Tryz.prog 19 [agWriter aW] (lookO []) false (.agg [I aW.Band, .arr 7401]) (lookO [(7401, tOTrained 7411 7412 ts_1), (7411, tFTrainedBase ts_1), (7412, tFTrainedFeats ts_1)]) ∧ True, CallOK Tryz.prog 20 [slFeat false aSample] (lookO []) false (.arr 8301) (lookO [(8301, tAFeat ys_2)]) ∧ True, CallOK Tryz.prog 8 [.agg [I aW.Band, slTrained false ts_1], Sv aLabel, slFeat false ys_2, I aShare] (lookO []) false (.tup [.agg [I ((lsR (Writer.mk aW.Band ts_1) aLabel ys_2 aShare).1.Band), .arr 7421], I ((lsR (Writer.mk aW.Band ts_1) aLabel ys_2 aShare).2.1), I ((lsR (Writer.mk aW.Band ts_1) aLabel ys_2 aShare).2.2)]) (lookO [(7421, tOTrained 7431 7432 ts_4), (7431, tFTrainedBase ts_4), (7432, tFTrainedFeats ts_4)]) ∧ allTag [(7421, tOTrained 7431 7432 ts_4), (7431, tFTrainedBase ts_4), (7432, tFTrainedFeats ts_4)] ∧ tagged true (.tup [.agg [I ((lsR (Writer.mk aW.Band ts_1) aLabel ys_2 aShare).1.Band), .arr 7421], I ((lsR (Writer.mk aW.Band ts_1) aLabel ys_2 aShare).2.1), I ((lsR (Writer.mk aW.Band ts_1) aLabel ys_2 aShare).2.2)]) ∧ ((valOf (I aW.Band) = valOf (I aW.Band)) ∧ ((false = true → true = true) ∧ 4 = 4 ∧ ts_1.length = ts_1.length ∧ ∀ i_, i_ < ts_1.length → AV.idsL ((fTrained false ts_1) i_) = [] ∧ leL (lookO [(7411, tFTrainedBase ts_1), (7412, tFTrainedFeats ts_1)]) true ((oTrained 7411 7412 ts_1) i_) ((fTrained false ts_1) i_)) ∧ ([] : List AV) = []) ∧ ((false = true → true = true) ∧ 3 = 3 ∧ ys_2.length = ys_2.length ∧ ∀ i_, i_ < ys_2.length → (fFeat ys_2) i_ = (fFeat ys_2) i_ ∨ (AV.idsL ((fFeat ys_2) i_) = [] ∧ leL (fun _ => none) false ((fFeat ys_2) i_) ((fFeat ys_2) i_))) ∧ True] hB ⟨⟨hc1, trivial⟩, ⟨hc2, trivial⟩, ⟨hc4, ⟨(by intro i_ _; simp [oTrained, oTrainedc, taggedL, tagged]), (fun _ _ _ _ => tagcFeat true _), (fun _ _ _ _ => tagcFeat true _), trivial⟩, (by simp [tagged, taggedL]), ⟨rfl, ⟨⟨(fun h => by cases h), rfl, rfl, oleTrained _ _ rfl rfl⟩, rfl⟩⟩, ⟨(fun h => by cases h), rfl, rfl, fun i _ => .inl rfl⟩, trivial⟩, trivial⟩ ?_
  refine ae_then ?_
  refine aw_seq ?_
  refine aR [(2, .call [(false, .agg [I ((lsR (Writer.mk aW.Band ts_1) aLabel ys_2 aShare).1.Band), slTrained false ts_4]), (false, agWriter v_3)] true (Bv true)), (7, .dec false), (12, .dec false)] [15, 19, 144] [15, 7905, 7906, 7907] [.ref 15 0, I v_7, Bv false] [some (.box [I ((lsR (Writer.mk aW.Band ts_1) aLabel ys_2 aShare).1.Band), .arr 7905]), some (tOTrained 7906 7907 alTrained_7), some (tFTrainedBase alTrained_7), some (tFTrainedFeats alTrained_7)] [Con Tryz.prog 21 [.agg [I ((lsR (Writer.mk aW.Band ts_1) aLabel ys_2 aShare).1.Band), slTrained false ts_4], agWriter v_3] true (Bv true) ∧ ((valOf (I ((lsR (Writer.mk aW.Band ts_1) aLabel ys_2 aShare).1.Band)) = valOf (I ((lsR (Writer.mk aW.Band ts_1) aLabel ys_2 aShare).1.Band))) ∧ ((false = true → true = true) ∧ 4 = 4 ∧ ts_4.length = ts_4.length ∧ ∀ i_, i_ < ts_4.length → AV.idsL ((fTrained false ts_4) i_) = [] ∧ leL (lookO [(7431, tFTrainedBase ts_4), (7432, tFTrainedFeats ts_4)]) true ((oTrained 7431 7432 ts_4) i_) ((fTrained false ts_4) i_)) ∧ ([] : List AV) = []) ∧ ((valOf (I v_3.Band) = valOf (I v_3.Band)) ∧ ((false = true → true = true) ∧ 4 = 4 ∧ v_3.Trained.length = v_3.Trained.length ∧ ∀ i_, i_ < v_3.Trained.length → (fTrained true v_3.Trained) i_ = (fTrained false v_3.Trained) i_ ∨ (AV.idsL ((fTrained false v_3.Trained) i_) = [] ∧ leL (fun _ => none) false ((fTrained true v_3.Trained) i_) ((fTrained false v_3.Trained) i_))) ∧ ([] : List AV) = []) ∧ True, ¬ (((lsR (Writer.mk aW.Band ts_1) aLabel ys_2 aShare).2.1) ≠ ix_3), ¬ (((lsR (Writer.mk aW.Band ts_1) aLabel ys_2 aShare).2.2) ≠ c_3)] hB ⟨⟨(con_bool (by subst_vars; exact same_self _) (eqWriter_ok (Writer.mk ((lsR (Writer.mk aW.Band ts_1) aLabel ys_2 aShare).1.Band) ts_4) v_3)), ⟨rfl, ⟨⟨(fun h => by cases h), rfl, rfl, oleTrained _ _ rfl rfl⟩, rfl⟩⟩, ⟨rfl, ⟨⟨(fun h => by cases h), rfl, rfl, fun i _ => .inr ⟨idsTrained _ _, leTrained _ _ _⟩⟩, rfl⟩⟩, trivial⟩, (fun hq => hq (by subst_vars; first | rfl | exact nRs_idem _ _ | exact (nRs_idem _ _).symm | (simp only [nRs_idem]; done))), (fun hq => hq (by subst_vars; first | rfl | exact nRs_idem _ _ | exact (nRs_idem _ _).symm | (simp only [nRs_idem]; done))), trivial⟩ ?_
  refine aw_false rfl ?_
  refine aw_skip ?_
  refine ae_then ?_
  refine aR [] [15, 19, 20] [15, 7905, 7906, 7907] [.ref 15 0, I v_7, I 1] [some (.box [I ((lsR (Writer.mk aW.Band ts_1) aLabel ys_2 aShare).1.Band), .arr 7905]), some (tOTrained 7906 7907 alTrained_7), some (tFTrainedBase alTrained_7), some (tFTrainedFeats alTrained_7)] [] hB trivial ?_
  refine aR [(2, .call [(false, .agg [I ((lsR (Writer.mk aW.Band ts_1) aLabel ys_2 aShare).1.Band), slTrained false alTrained_7]), (true, .any)] true (I (nRs 1 (Writer.mk ((lsR (Writer.mk aW.Band ts_1) aLabel ys_2 aShare).1.Band) alTrained_7).Trained)))] [19, 20] [] [I v_7, I (nRs 1 (Writer.mk ((lsR (Writer.mk aW.Band ts_1) aLabel ys_2 aShare).1.Band) alTrained_7).Trained)] [] [Con Tryz.prog 25 [.agg [I ((lsR (Writer.mk aW.Band ts_1) aLabel ys_2 aShare).1.Band), slTrained false alTrained_7], I 1] true (I (nRs 1 (Writer.mk ((lsR (Writer.mk aW.Band ts_1) aLabel ys_2 aShare).1.Band) alTrained_7).Trained)) ∧ ((valOf (I ((lsR (Writer.mk aW.Band ts_1) aLabel ys_2 aShare).1.Band)) = valOf (I ((lsR (Writer.mk aW.Band ts_1) aLabel ys_2 aShare).1.Band))) ∧ ((false = true → true = true) ∧ 4 = 4 ∧ alTrained_7.length = alTrained_7.length ∧ ∀ i_, i_ < alTrained_7.length → AV.idsL ((fTrained false alTrained_7) i_) = [] ∧ leL (lookO [(7906, tFTrainedBase alTrained_7), (7907, tFTrainedFeats alTrained_7)]) true ((oTrained 7906 7907 alTrained_7) i_) ((fTrained false alTrained_7) i_)) ∧ ([] : List AV) = []) ∧ True] hB ⟨⟨(heldWriter_ok (Writer.mk ((lsR (Writer.mk aW.Band ts_1) aLabel ys_2 aShare).1.Band) alTrained_7) 1 (by subst_vars; exact ⟨by omega, by rw [nRs_idem]; exact lsR_n _ _ _ _⟩) (by subst_vars; exact (mRs_idem _ _).symm)), ⟨rfl, ⟨⟨(fun h => by cases h), rfl, rfl, oleTrained _ _ rfl rfl⟩, rfl⟩⟩, trivial⟩, trivial⟩ ?_
  refine aw_seq ?_
  refine aR [(1, .dec false)] [19, 20, 149] [] [I v_7, I (nRs 1 (Writer.mk ((lsR (Writer.mk aW.Band ts_1) aLabel ys_2 aShare).1.Band) alTrained_7).Trained), Bv false] [] [¬ ((nRs 1 (Writer.mk ((lsR (Writer.mk aW.Band ts_1) aLabel ys_2 aShare).1.Band) alTrained_7).Trained) < 0)] hB ⟨(by subst_vars; first | omega | exact Int.not_lt.2 (Int.le_trans (by omega) (nRs_lo _ _)) | exact Int.not_lt.2 (Int.le_trans (by omega) (nTs_lo _ _))), trivial⟩ ?_
  refine aw_false rfl ?_
  refine aw_skip ?_
  refine ae_then ?_
  refine aw_seq ?_
  refine aR [(2, .dec false)] [152] [] [Bv false] [] [¬ ((nRs 1 (Writer.mk ((lsR (Writer.mk aW.Band ts_1) aLabel ys_2 aShare).1.Band) alTrained_7).Trained) ≠ v_7)] hB ⟨(fun hq => hq (by subst_vars; first | rfl | exact nRs_idem _ _ | exact (nRs_idem _ _).symm | (simp only [nRs_idem]; done))), trivial⟩ ?_
  refine aw_false rfl ?_
  refine aw_skip ?_
  refine ae_then ?_
  refine aR [] [8] [] [Bv true] [] [] hB trivial ?_
  refine aw_ret ?_
  refine ae_ret hB (Bv true) (by kernel_rfl) (.inl rfl) rfl (fun _ => trivial)


/-! ### the row -/

def okOFeat (x : Feat) : Prop := (inR .i64 x.X) ∧ (inR .i64 x.Y) ∧ (inR .i64 x.D)

theorem opens_t89 : OpensA Tryz.prog 89 (cFeat) okOFeat := by
  intro H enc w base spare held fuel cs y h
  obtain ⟨ys, n, _, _, hlen, hyl, hf⟩ := DataW.trod_struct Tryz.underlying89 h
  obtain ⟨x0, r0, o0⟩ := (opensA_int Tryz.underlying2) enc w base spare held _ _ _ ((hf 0 _ rfl).trans (List.getElem?_eq_getElem (by rw [hyl]; decide)))
  obtain ⟨x1, r1, o1⟩ := (opensA_int Tryz.underlying2) enc w base spare held _ _ _ ((hf 1 _ rfl).trans (List.getElem?_eq_getElem (by rw [hyl]; decide)))
  obtain ⟨x2, r2, o2⟩ := (opensA_int Tryz.underlying2) enc w base spare held _ _ _ ((hf 2 _ rfl).trans (List.getElem?_eq_getElem (by rw [hyl]; decide)))
  have hlen : cs.length = 3 := hlen.trans (by kernel_rfl)
  exact ⟨⟨x0, x1, x2⟩, RelTL.whole (n := 3) (RelTL.app (a := 2) (b := 1) (RelTL.app (a := 1) (b := 1) r0 (by kernel_rfl) r1 (by kernel_rfl) (by kernel_rfl) (by omega)) rfl r2 (by kernel_rfl) (by kernel_rfl) (by omega)) hlen rfl, o0, o1, o2⟩

theorem opens_t50 : OpensA Tryz.prog 50 (cLFeat false) (fun xs => ∀ y ∈ xs, okOFeat y) :=
  opensA_slice (c := cFeat) (sz := 3) Tryz.underlying50 (by kernel_rfl) (by decide) (fun x => ⟨rfl, by simp [oneA, cFeat, cI]⟩) (opens_t89)

def okOTrained (x : Trained) : Prop := (x.Label.size ≤ 9223372036854775807) ∧ (∀ y ∈ x.Base, okOFeat y) ∧ (∀ y ∈ x.Feats, okOFeat y) ∧ (inR .i64 x.Count)

theorem opens_t123 : OpensA Tryz.prog 123 (cTrained false) okOTrained := by
  intro H enc w base spare held fuel cs y h
  obtain ⟨ys, n, _, _, hlen, hyl, hf⟩ := DataW.trod_struct Tryz.underlying123 h
  obtain ⟨x0, r0, o0⟩ := (opensA_str Tryz.underlying9) enc w base spare held _ _ _ ((hf 0 _ rfl).trans (List.getElem?_eq_getElem (by rw [hyl]; decide)))
  obtain ⟨x1, r1, o1⟩ := (opens_t50) enc w base spare held _ _ _ ((hf 1 _ rfl).trans (List.getElem?_eq_getElem (by rw [hyl]; decide)))
  obtain ⟨x2, r2, o2⟩ := (opens_t50) enc w base spare held _ _ _ ((hf 2 _ rfl).trans (List.getElem?_eq_getElem (by rw [hyl]; decide)))
  obtain ⟨x3, r3, o3⟩ := (opensA_int Tryz.underlying2) enc w base spare held _ _ _ ((hf 3 _ rfl).trans (List.getElem?_eq_getElem (by rw [hyl]; decide)))
  have hlen : cs.length = 4 := hlen.trans (by kernel_rfl)
  exact ⟨⟨x0, x1, x2, x3⟩, RelTL.whole (n := 4) (RelTL.app (a := 3) (b := 1) (RelTL.app (a := 2) (b := 1) (RelTL.app (a := 1) (b := 1) r0 (by kernel_rfl) r1 (by kernel_rfl) (by kernel_rfl) (by omega)) rfl r2 (by kernel_rfl) (by kernel_rfl) (by omega)) rfl r3 (by kernel_rfl) (by kernel_rfl) (by omega)) hlen rfl, o0, o1, o2, o3⟩

theorem opens_t47 : OpensA Tryz.prog 47 (cLTrained false) (fun xs => ∀ y ∈ xs, okOTrained y) :=
  opensA_slice (c := (cTrained false)) (sz := 4) Tryz.underlying47 (by kernel_rfl) (by decide) (fun x => ⟨rfl, by simp [oneA, cI, cLFeat, cS, cTrained, slFeat]⟩) (opens_t123)

def okOWriter (x : Writer) : Prop := (inR .i64 x.Band) ∧ (∀ y ∈ x.Trained, okOTrained y)
end Go.Proofs.YtjiflhglbephbaaGreat.Ax
