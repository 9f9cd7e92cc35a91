/- The statement FnAdapt: contracts of what it reaches, and its proof. No conditions. -/
import Derived.Test.YtcedmgpiaekfaaaAxLAdapt4
import Derived.Test.YtcedmgpiaekfaaaAxR
import Derived.Test.YtcedmgpiaekfaaaAxS
import Derived.Test.YtcedmgpiaekfaaaSortShelf
namespace Go.Proofs.Ytcedmgpiaekfaaa.Ax
open Go.RowKit Go.ChangeShapes Go.WideShapes
set_option linter.unusedVariables false
set_option linter.unusedSimpArgs false


-- impl.AdaptTrained
theorem implAdaptTrained_ok (t : Trained) (sample : List Feat) (band : Int) (share : Int) (ok : okTrained t) : ∃ (bs : List Feat) (fs : List Feat), (bs = (adR t sample band share).1.Base) ∧ (fs = (adR t sample band share).1.Feats) ∧ CallOK Try.prog 10 [agTrained t, slFeat false sample, I band, I share] (lookO []) false (.tup [.agg [Sv ((adR t sample band share).1.Label), .arr 8311, .arr 8312, I ((adR t sample band share).1.Count)], I ((adR t sample band share).2)]) (lookO [(8311, .arr 3 bs.length (fFeat bs)), (8312, .arr 3 fs.length (fFeat fs))]) := by
  have hh : ∃ r : (List Feat) × (List Feat), ((r.1 = (adR t sample band share).1.Base) ∧ (r.2 = (adR t sample band share).1.Feats) ∧ (True)) ∧ CallOK Try.prog 10 [agTrained t, slFeat false sample, I band, I share] (lookO []) false (.tup [.agg [Sv ((adR t sample band share).1.Label), .arr 8311, .arr 8312, I ((adR t sample band share).1.Count)], I ((adR t sample band share).2)]) (lookO [(8311, .arr 3 r.1.length (fFeat r.1)), (8312, .arr 3 r.2.length (fFeat r.2))]) := by
    refine fn_okX (Φ := fun r : (List Feat) × (List Feat) => (r.1 = (adR t sample band share).1.Base) ∧ (r.2 = (adR t sample band share).1.Feats) ∧ (True)) [] (fun r => [(8311, .arr 3 r.1.length (fFeat r.1)), (8312, .arr 3 r.2.length (fFeat r.2))]) (fn := Try.f10) (nt := 45) Try.func10 rfl rfl (args := [agTrained t, slFeat false sample, I band, I share]) rfl (allcons (.inl ⟨rfl, by simp [tagged, taggedL, tagFeat]⟩) (allcons (.inl ⟨rfl, tagFeat false _⟩) (allcons (.inl ⟨rfl, trivial⟩) (allcons (.inl ⟨rfl, trivial⟩) allnil)))) (res := fun r => .tup [.agg [Sv ((adR t sample band share).1.Label), .arr 8311, .arr 8312, I ((adR t sample band share).1.Count)], I ((adR t sample band share).2)]) ?_
    refine x_seq ?_
    refine x_reg [(0, .new 4), (1, .new 8)] [1, 2, 3, 4, 8] [4, 8] [slFeat false sample, I band, I share, .ref 4 0, .ref 8 0] [some (bxTrained t), some (.box [Sv (⟨#[]⟩ : ByteArray), nilA, nilA, I 0])] [] (by kernel_rfl) trivial ?_
    refine xe_then ?_
    refine x_seq ?_
    refine x_block ?_
    refine x_seq ?_
    rcases Bool.eq_false_or_eq_true (okTrained' t) with h1 | h1
    ·have okt := h1
     rcases Bool.eq_false_or_eq_true (okFeats sample 72) with h2 | h2
     ·have oks := h2
      have okl := okTr_len okt
      have hns := okFeats_n oks
      have hna := okFeats_n (okTr_iff.1 okt).2.2.1
      have hlen := (okTr_iff.1 okt).2.2.2.1.1
      refine x_reg [(1, .call [(true, agTrained t)] true (Bv true)), (5, .call [(true, slFeat false sample)] true (Bv true))] [1, 2, 3, 4, 8, 10] [4, 8] [slFeat false sample, I band, I share, .ref 4 0, .ref 8 0, Bv false] [some (bxTrained t), some (.box [Sv (⟨#[]⟩ : ByteArray), nilA, nilA, I 0])] [Con Try.prog 31 [agTrained t] true (Bv true) ∧ ((agTrained t : AV) = agTrained t) ∧ True, Con Try.prog 32 [slFeat false sample] true (Bv true) ∧ ((slFeat false sample : AV) = slFeat false sample) ∧ True] (by kernel_rfl) ⟨⟨(con_bool h1 (ValidTrained_ok t ok)), rfl, trivial⟩, ⟨(con_bool h2 (ValidSeq_ok sample)), rfl, trivial⟩, trivial⟩ ?_
      refine xe_then ?_
      refine x_false rfl ?_
      refine x_seq ?_
      rcases Bool.eq_false_or_eq_true (inB share 0 100) with h3 | h3
      ·have hsh := inB_iff.1 h3
       rcases Bool.eq_false_or_eq_true (inB band 0 72 && decide ((((t.Feats.length : Int) - (sample.length : Int)).natAbs : Int) ≤ band)) with h4 | h4
       ·have hbn := band_of h4 (by omega) (by omega)
        have hbd := hbn.1
        have hnm : inBd band t.Feats.length sample.length := hbn.2
        refine x_reg [(1, .call [(true, I share), (true, I 0), (true, I 100)] true (Bv true)), (10, .call [(true, I band), (true, I (t.Feats.length : Int)), (true, I (sample.length : Int))] true (Bv true))] [1, 2, 3, 4, 8, 20] [4, 8] [slFeat false sample, I band, I share, .ref 4 0, .ref 8 0, Bv false] [some (bxTrained t), some (.box [Sv (⟨#[]⟩ : ByteArray), nilA, nilA, I 0])] [Con Try.prog 33 [I share, I 0, I 100] true (Bv true) ∧ ((I share : AV) = I share) ∧ ((I 0 : AV) = I 0) ∧ ((I 100 : AV) = I 100) ∧ True, Con Try.prog 34 [I band, I (t.Feats.length : Int), I (sample.length : Int)] true (Bv true) ∧ ((I band : AV) = I band) ∧ ((I (t.Feats.length : Int) : AV) = I (t.Feats.length : Int)) ∧ ((I (sample.length : Int) : AV) = I (sample.length : Int)) ∧ True] (by kernel_rfl) ⟨⟨(con_bool h3 (within_ok share 0 100)), rfl, rfl, rfl, trivial⟩, ⟨(con_bool h4 (isBand_ok band (t.Feats.length : Int) (sample.length : Int) (by omega) (by omega))), rfl, rfl, rfl, trivial⟩, trivial⟩ ?_
        refine xe_then ?_
        refine x_false rfl ?_
        refine x_seq ?_
        by_cases h5 : 100 ≤ t.Count
        ·have hst : adR t sample band share = (zT, 5) := by unfold adR; simp [*]
         refine x_reg [(2, .dec true)] [1, 2, 3, 4, 8, 35] [4, 8] [slFeat false sample, I band, I share, .ref 4 0, .ref 8 0, Bv true] [some (bxTrained t), some (.box [Sv (⟨#[]⟩ : ByteArray), nilA, nilA, I 0])] [100 ≤ t.Count] (by kernel_rfl) ⟨h5, trivial⟩ ?_
         refine xe_then ?_
         refine x_true rfl ?_
         refine x_seq ?_
         refine x_reg [] [8, 9] [8] [.ref 8 0, I 5] [some (.box [Sv (⟨#[]⟩ : ByteArray), nilA, nilA, I 0])] [] (by kernel_rfl) trivial ?_
         refine xe_then ?_
         refine x_ret ?_
         refine xe_ret_block (xe_ret_then ?_)
         refine xe_nilC 8 1 8311 3 (fun _ => []) rfl (by kernel_rfl) ?_
         refine xe_nilC 8 2 8312 3 (fun _ => []) rfl (by kernel_rfl) ?_
         refine xe_weak [] (T := [(8, .ref 8 0), (9, I 5)]) (O := [(8, .box [Sv ((adR t sample band share).1.Label), .arr 8311, .arr 8312, I ((adR t sample band share).1.Count)]), (8311, .arr 3 (([] : List Feat).length) (fFeat ([] : List Feat))), (8312, .arr 3 (([] : List Feat).length) (fFeat ([] : List Feat)))]) rfl (⟨.inl rfl, .inl rfl, trivial⟩) (⟨.inr ⟨(by first | rfl | (simp [valOf]; done) | (simp [valOf]; first | omega | (rw [hst]; exact rfl) | (simp [hst]))), ⟨rfl, ⟨rfl, ⟨(by first | rfl | (simp [valOf]; done) | (simp [valOf]; first | omega | (rw [hst]; exact rfl) | (simp [hst]))), rfl⟩⟩⟩⟩, .inr ⟨rfl, (by first | rfl | (simp; done) | (simp; omega) | omega), fun i_ hi_ => absurd hi_ (Nat.not_lt_zero _)⟩, .inr ⟨rfl, (by first | rfl | (simp; done) | (simp; omega) | omega), fun i_ hi_ => absurd hi_ (Nat.not_lt_zero _)⟩, trivial⟩) ?_
         refine xe_end (([] : List Feat), ([] : List Feat)) (show (([] : List Feat) = (adR t sample band share).1.Base) ∧ (([] : List Feat) = (adR t sample band share).1.Feats) ∧ (True) from ⟨(by first | (rw [hst]; done) | (rw [hst]; assumption) | (rw [hst]; exact rfl)), (by first | (rw [hst]; done) | (rw [hst]; assumption) | (rw [hst]; exact rfl)), trivial⟩) (⟨.inl rfl, .inl rfl, trivial⟩) (.tup [.agg [Sv ((adR t sample band share).1.Label), .arr 8311, .arr 8312, I ((adR t sample band share).1.Count)], I 5]) (by kernel_rfl) (.inr ⟨⟨rfl, ⟨rfl, ⟨rfl, ⟨rfl, rfl⟩⟩⟩⟩, ⟨(by first | rfl | (simp [valOf]; done) | (simp [valOf]; first | omega | (rw [hst]; exact rfl) | (simp [hst]))), rfl⟩⟩) (fun h => by cases h) (fun h => by cases h)
        ·have hct : t.Count < 100 := by omega
         have hst : adR t sample band share = (adpT t sample band share, 0) := by unfold adR; simp [*]
         refine x_reg [(2, .dec false)] [1, 2, 3, 4, 8, 35] [4, 8] [slFeat false sample, I band, I share, .ref 4 0, .ref 8 0, Bv false] [some (bxTrained t), some (.box [Sv (⟨#[]⟩ : ByteArray), nilA, nilA, I 0])] [¬ (100 ≤ t.Count)] (by kernel_rfl) ⟨h5, trivial⟩ ?_
         refine xe_then ?_
         refine x_false rfl ?_
         refine x_skip ?_
         refine xe_block 0 ?_
         refine xe_then ?_
         refine x_seq ?_
         obtain ⟨bs_1, fs_1, hx1_0, hx1_1, hc1⟩ := adapted_ok t sample band share okt oks hbd hnm hsh hct
         refine x_reg [(4, .lend [] [(8311, .arr 3 bs_1.length (fFeat bs_1)), (8312, .arr 3 fs_1.length (fFeat fs_1))] [(true, agTrained t), (true, slFeat false sample), (true, I band), (true, I share)] false (.agg [Sv t.Label, .arr 8311, .arr 8312, I (t.Count + 1)]))] [8, 9] [8, 8311, 8312] [.ref 8 0, I 0] [some (.box [Sv t.Label, .arr 8311, .arr 8312, I (t.Count + 1)]), some (.arr 3 bs_1.length (fFeat bs_1)), some (.arr 3 fs_1.length (fFeat fs_1))] [CallOK Try.prog 35 [agTrained t, slFeat false sample, I band, I share] (lookO []) false (.agg [Sv t.Label, .arr 8311, .arr 8312, I (t.Count + 1)]) (lookO [(8311, .arr 3 bs_1.length (fFeat bs_1)), (8312, .arr 3 fs_1.length (fFeat fs_1))]) ∧ ((agTrained t : AV) = agTrained t) ∧ ((slFeat false sample : AV) = slFeat false sample) ∧ ((I band : AV) = I band) ∧ ((I share : AV) = I share) ∧ True] (by kernel_rfl) ⟨⟨hc1, rfl, rfl, rfl, rfl, trivial⟩, trivial⟩ ?_
         refine xe_then ?_
         refine x_ret ?_
         refine xe_weak [] (T := [(8, .ref 8 0), (9, I 0)]) (O := [(8, .box [Sv ((adR t sample band share).1.Label), .arr 8311, .arr 8312, I ((adR t sample band share).1.Count)]), (8311, .arr 3 bs_1.length (fFeat bs_1)), (8312, .arr 3 fs_1.length (fFeat fs_1))]) rfl (⟨.inl rfl, .inl rfl, trivial⟩) (⟨.inr ⟨(by first | rfl | (simp [valOf]; done) | (simp [valOf]; first | omega | (rw [hst]; exact rfl) | (simp [hst]))), ⟨rfl, ⟨rfl, ⟨(by first | rfl | (simp [valOf]; done) | (simp [valOf]; first | omega | (rw [hst]; exact rfl) | (simp [hst]))), rfl⟩⟩⟩⟩, .inl rfl, .inl rfl, trivial⟩) ?_
         refine xe_end (bs_1, fs_1) (show (bs_1 = (adR t sample band share).1.Base) ∧ (fs_1 = (adR t sample band share).1.Feats) ∧ (True) from ⟨(by first | (rw [hst]; done) | (rw [hst]; assumption) | (rw [hst]; exact rfl)), (by first | (rw [hst]; done) | (rw [hst]; assumption) | (rw [hst]; exact rfl)), trivial⟩) (⟨.inl rfl, .inl rfl, trivial⟩) (.tup [.agg [Sv ((adR t sample band share).1.Label), .arr 8311, .arr 8312, I ((adR t sample band share).1.Count)], I 0]) (by kernel_rfl) (.inr ⟨⟨rfl, ⟨rfl, ⟨rfl, ⟨rfl, rfl⟩⟩⟩⟩, ⟨(by first | rfl | (simp [valOf]; done) | (simp [valOf]; first | omega | (rw [hst]; exact rfl) | (simp [hst]))), rfl⟩⟩) (fun h => by cases h) (fun h => by cases h)
       ·have hst : adR t sample band share = (zT, 2) := by unfold adR; simp [*]
        refine x_reg [(1, .call [(true, I share), (true, I 0), (true, I 100)] true (Bv true)), (10, .call [(true, I band), (true, I (t.Feats.length : Int)), (true, I (sample.length : Int))] true (Bv false))] [1, 2, 3, 4, 8, 20] [4, 8] [slFeat false sample, I band, I share, .ref 4 0, .ref 8 0, Bv true] [some (bxTrained t), some (.box [Sv (⟨#[]⟩ : ByteArray), nilA, nilA, I 0])] [Con Try.prog 33 [I share, I 0, I 100] true (Bv true) ∧ ((I share : AV) = I share) ∧ ((I 0 : AV) = I 0) ∧ ((I 100 : AV) = I 100) ∧ True, Con Try.prog 34 [I band, I (t.Feats.length : Int), I (sample.length : Int)] true (Bv false) ∧ ((I band : AV) = I band) ∧ ((I (t.Feats.length : Int) : AV) = I (t.Feats.length : Int)) ∧ ((I (sample.length : Int) : AV) = I (sample.length : Int)) ∧ True] (by kernel_rfl) ⟨⟨(con_bool h3 (within_ok share 0 100)), rfl, rfl, rfl, trivial⟩, ⟨(con_bool h4 (isBand_ok band (t.Feats.length : Int) (sample.length : Int) (by omega) (by omega))), rfl, rfl, rfl, trivial⟩, trivial⟩ ?_
        refine xe_then ?_
        refine x_true rfl ?_
        refine x_seq ?_
        refine x_reg [] [8, 9] [8] [.ref 8 0, I 2] [some (.box [Sv (⟨#[]⟩ : ByteArray), nilA, nilA, I 0])] [] (by kernel_rfl) trivial ?_
        refine xe_then ?_
        refine x_ret ?_
        refine xe_ret_block (xe_ret_then ?_)
        refine xe_nilC 8 1 8311 3 (fun _ => []) rfl (by kernel_rfl) ?_
        refine xe_nilC 8 2 8312 3 (fun _ => []) rfl (by kernel_rfl) ?_
        refine xe_weak [] (T := [(8, .ref 8 0), (9, I 2)]) (O := [(8, .box [Sv ((adR t sample band share).1.Label), .arr 8311, .arr 8312, I ((adR t sample band share).1.Count)]), (8311, .arr 3 (([] : List Feat).length) (fFeat ([] : List Feat))), (8312, .arr 3 (([] : List Feat).length) (fFeat ([] : List Feat)))]) rfl (⟨.inl rfl, .inl rfl, trivial⟩) (⟨.inr ⟨(by first | rfl | (simp [valOf]; done) | (simp [valOf]; first | omega | (rw [hst]; exact rfl) | (simp [hst]))), ⟨rfl, ⟨rfl, ⟨(by first | rfl | (simp [valOf]; done) | (simp [valOf]; first | omega | (rw [hst]; exact rfl) | (simp [hst]))), rfl⟩⟩⟩⟩, .inr ⟨rfl, (by first | rfl | (simp; done) | (simp; omega) | omega), fun i_ hi_ => absurd hi_ (Nat.not_lt_zero _)⟩, .inr ⟨rfl, (by first | rfl | (simp; done) | (simp; omega) | omega), fun i_ hi_ => absurd hi_ (Nat.not_lt_zero _)⟩, trivial⟩) ?_
        refine xe_end (([] : List Feat), ([] : List Feat)) (show (([] : List Feat) = (adR t sample band share).1.Base) ∧ (([] : List Feat) = (adR t sample band share).1.Feats) ∧ (True) from ⟨(by first | (rw [hst]; done) | (rw [hst]; assumption) | (rw [hst]; exact rfl)), (by first | (rw [hst]; done) | (rw [hst]; assumption) | (rw [hst]; exact rfl)), trivial⟩) (⟨.inl rfl, .inl rfl, trivial⟩) (.tup [.agg [Sv ((adR t sample band share).1.Label), .arr 8311, .arr 8312, I ((adR t sample band share).1.Count)], I 2]) (by kernel_rfl) (.inr ⟨⟨rfl, ⟨rfl, ⟨rfl, ⟨rfl, rfl⟩⟩⟩⟩, ⟨(by first | rfl | (simp [valOf]; done) | (simp [valOf]; first | omega | (rw [hst]; exact rfl) | (simp [hst]))), rfl⟩⟩) (fun h => by cases h) (fun h => by cases h)
      ·have hst : adR t sample band share = (zT, 2) := by unfold adR; simp [*]
       refine x_reg [(1, .call [(true, I share), (true, I 0), (true, I 100)] true (Bv false))] [1, 2, 3, 4, 8, 20] [4, 8] [slFeat false sample, I band, I share, .ref 4 0, .ref 8 0, Bv true] [some (bxTrained t), some (.box [Sv (⟨#[]⟩ : ByteArray), nilA, nilA, I 0])] [Con Try.prog 33 [I share, I 0, I 100] true (Bv false) ∧ ((I share : AV) = I share) ∧ ((I 0 : AV) = I 0) ∧ ((I 100 : AV) = I 100) ∧ True] (by kernel_rfl) ⟨⟨(con_bool h3 (within_ok share 0 100)), rfl, rfl, rfl, trivial⟩, trivial⟩ ?_
       refine xe_then ?_
       refine x_true rfl ?_
       refine x_seq ?_
       refine x_reg [] [8, 9] [8] [.ref 8 0, I 2] [some (.box [Sv (⟨#[]⟩ : ByteArray), nilA, nilA, I 0])] [] (by kernel_rfl) trivial ?_
       refine xe_then ?_
       refine x_ret ?_
       refine xe_ret_block (xe_ret_then ?_)
       refine xe_nilC 8 1 8311 3 (fun _ => []) rfl (by kernel_rfl) ?_
       refine xe_nilC 8 2 8312 3 (fun _ => []) rfl (by kernel_rfl) ?_
       refine xe_weak [] (T := [(8, .ref 8 0), (9, I 2)]) (O := [(8, .box [Sv ((adR t sample band share).1.Label), .arr 8311, .arr 8312, I ((adR t sample band share).1.Count)]), (8311, .arr 3 (([] : List Feat).length) (fFeat ([] : List Feat))), (8312, .arr 3 (([] : List Feat).length) (fFeat ([] : List Feat)))]) rfl (⟨.inl rfl, .inl rfl, trivial⟩) (⟨.inr ⟨(by first | rfl | (simp [valOf]; done) | (simp [valOf]; first | omega | (rw [hst]; exact rfl) | (simp [hst]))), ⟨rfl, ⟨rfl, ⟨(by first | rfl | (simp [valOf]; done) | (simp [valOf]; first | omega | (rw [hst]; exact rfl) | (simp [hst]))), rfl⟩⟩⟩⟩, .inr ⟨rfl, (by first | rfl | (simp; done) | (simp; omega) | omega), fun i_ hi_ => absurd hi_ (Nat.not_lt_zero _)⟩, .inr ⟨rfl, (by first | rfl | (simp; done) | (simp; omega) | omega), fun i_ hi_ => absurd hi_ (Nat.not_lt_zero _)⟩, trivial⟩) ?_
       refine xe_end (([] : List Feat), ([] : List Feat)) (show (([] : List Feat) = (adR t sample band share).1.Base) ∧ (([] : List Feat) = (adR t sample band share).1.Feats) ∧ (True) from ⟨(by first | (rw [hst]; done) | (rw [hst]; assumption) | (rw [hst]; exact rfl)), (by first | (rw [hst]; done) | (rw [hst]; assumption) | (rw [hst]; exact rfl)), trivial⟩) (⟨.inl rfl, .inl rfl, trivial⟩) (.tup [.agg [Sv ((adR t sample band share).1.Label), .arr 8311, .arr 8312, I ((adR t sample band share).1.Count)], I 2]) (by kernel_rfl) (.inr ⟨⟨rfl, ⟨rfl, ⟨rfl, ⟨rfl, rfl⟩⟩⟩⟩, ⟨(by first | rfl | (simp [valOf]; done) | (simp [valOf]; first | omega | (rw [hst]; exact rfl) | (simp [hst]))), rfl⟩⟩) (fun h => by cases h) (fun h => by cases h)
     ·have hst : adR t sample band share = (zT, 1) := by unfold adR; simp [*]
      refine x_reg [(1, .call [(true, agTrained t)] true (Bv true)), (5, .call [(true, slFeat false sample)] true (Bv false))] [1, 2, 3, 4, 8, 10] [4, 8] [slFeat false sample, I band, I share, .ref 4 0, .ref 8 0, Bv true] [some (bxTrained t), some (.box [Sv (⟨#[]⟩ : ByteArray), nilA, nilA, I 0])] [Con Try.prog 31 [agTrained t] true (Bv true) ∧ ((agTrained t : AV) = agTrained t) ∧ True, Con Try.prog 32 [slFeat false sample] true (Bv false) ∧ ((slFeat false sample : AV) = slFeat false sample) ∧ True] (by kernel_rfl) ⟨⟨(con_bool h1 (ValidTrained_ok t ok)), rfl, trivial⟩, ⟨(con_bool h2 (ValidSeq_ok sample)), rfl, trivial⟩, trivial⟩ ?_
      refine xe_then ?_
      refine x_true rfl ?_
      refine x_seq ?_
      refine x_reg [] [8, 9] [8] [.ref 8 0, I 1] [some (.box [Sv (⟨#[]⟩ : ByteArray), nilA, nilA, I 0])] [] (by kernel_rfl) trivial ?_
      refine xe_then ?_
      refine x_ret ?_
      refine xe_ret_block (xe_ret_then ?_)
      refine xe_nilC 8 1 8311 3 (fun _ => []) rfl (by kernel_rfl) ?_
      refine xe_nilC 8 2 8312 3 (fun _ => []) rfl (by kernel_rfl) ?_
      refine xe_weak [] (T := [(8, .ref 8 0), (9, I 1)]) (O := [(8, .box [Sv ((adR t sample band share).1.Label), .arr 8311, .arr 8312, I ((adR t sample band share).1.Count)]), (8311, .arr 3 (([] : List Feat).length) (fFeat ([] : List Feat))), (8312, .arr 3 (([] : List Feat).length) (fFeat ([] : List Feat)))]) rfl (⟨.inl rfl, .inl rfl, trivial⟩) (⟨.inr ⟨(by first | rfl | (simp [valOf]; done) | (simp [valOf]; first | omega | (rw [hst]; exact rfl) | (simp [hst]))), ⟨rfl, ⟨rfl, ⟨(by first | rfl | (simp [valOf]; done) | (simp [valOf]; first | omega | (rw [hst]; exact rfl) | (simp [hst]))), rfl⟩⟩⟩⟩, .inr ⟨rfl, (by first | rfl | (simp; done) | (simp; omega) | omega), fun i_ hi_ => absurd hi_ (Nat.not_lt_zero _)⟩, .inr ⟨rfl, (by first | rfl | (simp; done) | (simp; omega) | omega), fun i_ hi_ => absurd hi_ (Nat.not_lt_zero _)⟩, trivial⟩) ?_
      refine xe_end (([] : List Feat), ([] : List Feat)) (show (([] : List Feat) = (adR t sample band share).1.Base) ∧ (([] : List Feat) = (adR t sample band share).1.Feats) ∧ (True) from ⟨(by first | (rw [hst]; done) | (rw [hst]; assumption) | (rw [hst]; exact rfl)), (by first | (rw [hst]; done) | (rw [hst]; assumption) | (rw [hst]; exact rfl)), trivial⟩) (⟨.inl rfl, .inl rfl, trivial⟩) (.tup [.agg [Sv ((adR t sample band share).1.Label), .arr 8311, .arr 8312, I ((adR t sample band share).1.Count)], I 1]) (by kernel_rfl) (.inr ⟨⟨rfl, ⟨rfl, ⟨rfl, ⟨rfl, rfl⟩⟩⟩⟩, ⟨(by first | rfl | (simp [valOf]; done) | (simp [valOf]; first | omega | (rw [hst]; exact rfl) | (simp [hst]))), rfl⟩⟩) (fun h => by cases h) (fun h => by cases h)
    ·have hst : adR t sample band share = (zT, 1) := by unfold adR; simp [*]
     refine x_reg [(1, .call [(true, agTrained t)] true (Bv false))] [1, 2, 3, 4, 8, 10] [4, 8] [slFeat false sample, I band, I share, .ref 4 0, .ref 8 0, Bv true] [some (bxTrained t), some (.box [Sv (⟨#[]⟩ : ByteArray), nilA, nilA, I 0])] [Con Try.prog 31 [agTrained t] true (Bv false) ∧ ((agTrained t : AV) = agTrained t) ∧ True] (by kernel_rfl) ⟨⟨(con_bool h1 (ValidTrained_ok t ok)), rfl, trivial⟩, trivial⟩ ?_
     refine xe_then ?_
     refine x_true rfl ?_
     refine x_seq ?_
     refine x_reg [] [8, 9] [8] [.ref 8 0, I 1] [some (.box [Sv (⟨#[]⟩ : ByteArray), nilA, nilA, I 0])] [] (by kernel_rfl) trivial ?_
     refine xe_then ?_
     refine x_ret ?_
     refine xe_ret_block (xe_ret_then ?_)
     refine xe_nilC 8 1 8311 3 (fun _ => []) rfl (by kernel_rfl) ?_
     refine xe_nilC 8 2 8312 3 (fun _ => []) rfl (by kernel_rfl) ?_
     refine xe_weak [] (T := [(8, .ref 8 0), (9, I 1)]) (O := [(8, .box [Sv ((adR t sample band share).1.Label), .arr 8311, .arr 8312, I ((adR t sample band share).1.Count)]), (8311, .arr 3 (([] : List Feat).length) (fFeat ([] : List Feat))), (8312, .arr 3 (([] : List Feat).length) (fFeat ([] : List Feat)))]) rfl (⟨.inl rfl, .inl rfl, trivial⟩) (⟨.inr ⟨(by first | rfl | (simp [valOf]; done) | (simp [valOf]; first | omega | (rw [hst]; exact rfl) | (simp [hst]))), ⟨rfl, ⟨rfl, ⟨(by first | rfl | (simp [valOf]; done) | (simp [valOf]; first | omega | (rw [hst]; exact rfl) | (simp [hst]))), rfl⟩⟩⟩⟩, .inr ⟨rfl, (by first | rfl | (simp; done) | (simp; omega) | omega), fun i_ hi_ => absurd hi_ (Nat.not_lt_zero _)⟩, .inr ⟨rfl, (by first | rfl | (simp; done) | (simp; omega) | omega), fun i_ hi_ => absurd hi_ (Nat.not_lt_zero _)⟩, trivial⟩) ?_
     refine xe_end (([] : List Feat), ([] : List Feat)) (show (([] : List Feat) = (adR t sample band share).1.Base) ∧ (([] : List Feat) = (adR t sample band share).1.Feats) ∧ (True) from ⟨(by first | (rw [hst]; done) | (rw [hst]; assumption) | (rw [hst]; exact rfl)), (by first | (rw [hst]; done) | (rw [hst]; assumption) | (rw [hst]; exact rfl)), trivial⟩) (⟨.inl rfl, .inl rfl, trivial⟩) (.tup [.agg [Sv ((adR t sample band share).1.Label), .arr 8311, .arr 8312, I ((adR t sample band share).1.Count)], I 1]) (by kernel_rfl) (.inr ⟨⟨rfl, ⟨rfl, ⟨rfl, ⟨rfl, rfl⟩⟩⟩⟩, ⟨(by first | rfl | (simp [valOf]; done) | (simp [valOf]; first | omega | (rw [hst]; exact rfl) | (simp [hst]))), rfl⟩⟩) (fun h => by cases h) (fun h => by cases h)
  obtain ⟨⟨bs, fs⟩, ⟨hh0, hh1, _⟩, hc⟩ := hh
  exact ⟨bs, fs, hh0, hh1, hc⟩


-- spec.l01Small
theorem l01Small_ok (c : Int) : Con Try.prog 81 [.val (.int .u8 c)] true (Bv (inB c 97 122)) := by
  refine fn_ok (fn := Try.f81) (nt := 9) Try.func81 rfl rfl rfl rfl (by simp [taggedL, tagged]) fun B hB => ?_
  refine aw_seq ?_
  refine aw_reg [] [0] [] [.val (.int .u8 c)] [] [] (by kernel_rfl) hB trivial ?_
  refine ae_then ?_
  refine aw_seq ?_
  by_cases h1 : 97 ≤ c
  ·refine aw_reg [(1, .dec true)] [2] [] [Bv (decide (c ≤ 122))] [] [97 ≤ c] (by kernel_rfl) hB ⟨h1, trivial⟩ ?_
   refine ae_then ?_
   refine aw_ret ?_
   refine ae_ret hB (Bv (decide (c ≤ 122))) (by kernel_rfl) (.inl (by first | rfl | (refine congrArg Bv ?_; simp [inB, *]; done) | (refine congrArg Bv ?_; simp [inB, *]; omega) | (refine congrArg Bv ?_; simp_all [inB]; done) | (refine congrArg Bv ?_; simp_all [inB]; omega))) rfl (fun _ => trivial)
  ·refine aw_reg [(1, .dec false)] [2] [] [Bv false] [] [¬ (97 ≤ c)] (by kernel_rfl) hB ⟨h1, trivial⟩ ?_
   refine ae_then ?_
   refine aw_ret ?_
   refine ae_ret hB (Bv false) (by kernel_rfl) (.inl (by first | rfl | (refine congrArg Bv ?_; simp [inB, *]; done) | (refine congrArg Bv ?_; simp [inB, *]; omega) | (refine congrArg Bv ?_; simp_all [inB]; done) | (refine congrArg Bv ?_; simp_all [inB]; omega))) rfl (fun _ => trivial)


-- spec.l11Label
theorem l11Label_ok (c : Int) : Con Try.prog 68 [.val (.int .u8 c)] true (Bv (labB c)) := by
  refine fn_ok (fn := Try.f68) (nt := 24) Try.func68 rfl rfl rfl rfl (by simp [taggedL, tagged]) fun B hB => ?_
  refine aw_seq ?_
  refine aw_reg [] [0] [] [.val (.int .u8 c)] [] [] (by kernel_rfl) hB trivial ?_
  refine ae_then ?_
  refine aw_seq ?_
  refine aw_seq ?_
  refine aw_reg [] [0, 3] [] [.val (.int .u8 c), .val (.int .u8 c)] [] [] (by kernel_rfl) hB trivial ?_
  refine ae_then ?_
  refine aw_block ?_
  refine aw_seq ?_
  refine aw_seq ?_
  by_cases h1 : c = 43
  ·refine aw_reg [(0, .dec true)] [0, 3, 4] [] [.val (.int .u8 c), .val (.int .u8 c), Bv true] [] [c = 43] (by kernel_rfl) hB ⟨h1, trivial⟩ ?_
   refine ae_then ?_
   refine aw_true rfl ?_
   refine aw_skip ?_
   refine ae_then ?_
   refine aw_true rfl ?_
   refine aw_seq ?_
   refine aw_reg [] [2] [] [Bv true] [] [] (by kernel_rfl) hB trivial ?_
   refine ae_then ?_
   refine aw_ret ?_
   refine ae_ret_block (ae_ret_then ?_)
   refine ae_ret hB (Bv true) (by kernel_rfl) (.inl (by first | rfl | (refine congrArg Bv ?_; simp [labB, inB, *]; done) | (refine congrArg Bv ?_; simp [labB, inB, *]; omega) | (refine congrArg Bv ?_; simp_all [labB, inB]; done) | (refine congrArg Bv ?_; simp_all [labB, inB]; omega))) rfl (fun _ => trivial)
  ·refine aw_reg [(0, .dec false)] [0, 3, 4] [] [.val (.int .u8 c), .val (.int .u8 c), Bv false] [] [¬ (c = 43)] (by kernel_rfl) hB ⟨h1, trivial⟩ ?_
   refine ae_then ?_
   refine aw_false rfl ?_
   refine aw_seq ?_
   by_cases h2 : c = 45
   ·refine aw_reg [(0, .dec true)] [0, 3, 4] [] [.val (.int .u8 c), .val (.int .u8 c), Bv true] [] [c = 45] (by kernel_rfl) hB ⟨h2, trivial⟩ ?_
    refine ae_then ?_
    refine aw_true rfl ?_
    refine aw_skip ?_
    refine ae_then ?_
    refine aw_true rfl ?_
    refine aw_seq ?_
    refine aw_reg [] [2] [] [Bv true] [] [] (by kernel_rfl) hB trivial ?_
    refine ae_then ?_
    refine aw_ret ?_
    refine ae_ret_block (ae_ret_then ?_)
    refine ae_ret hB (Bv true) (by kernel_rfl) (.inl (by first | rfl | (refine congrArg Bv ?_; simp [labB, inB, *]; done) | (refine congrArg Bv ?_; simp [labB, inB, *]; omega) | (refine congrArg Bv ?_; simp_all [labB, inB]; done) | (refine congrArg Bv ?_; simp_all [labB, inB]; omega))) rfl (fun _ => trivial)
   ·refine aw_reg [(0, .dec false)] [0, 3, 4] [] [.val (.int .u8 c), .val (.int .u8 c), Bv false] [] [¬ (c = 45)] (by kernel_rfl) hB ⟨h2, trivial⟩ ?_
    refine ae_then ?_
    refine aw_false rfl ?_
    refine aw_seq ?_
    by_cases h3 : c = 42
    ·refine aw_reg [(0, .dec true)] [0, 3, 4] [] [.val (.int .u8 c), .val (.int .u8 c), Bv true] [] [c = 42] (by kernel_rfl) hB ⟨h3, trivial⟩ ?_
     refine ae_then ?_
     refine aw_true rfl ?_
     refine aw_skip ?_
     refine ae_then ?_
     refine aw_true rfl ?_
     refine aw_seq ?_
     refine aw_reg [] [2] [] [Bv true] [] [] (by kernel_rfl) hB trivial ?_
     refine ae_then ?_
     refine aw_ret ?_
     refine ae_ret_block (ae_ret_then ?_)
     refine ae_ret hB (Bv true) (by kernel_rfl) (.inl (by first | rfl | (refine congrArg Bv ?_; simp [labB, inB, *]; done) | (refine congrArg Bv ?_; simp [labB, inB, *]; omega) | (refine congrArg Bv ?_; simp_all [labB, inB]; done) | (refine congrArg Bv ?_; simp_all [labB, inB]; omega))) rfl (fun _ => trivial)
    ·refine aw_reg [(0, .dec false)] [0, 3, 4] [] [.val (.int .u8 c), .val (.int .u8 c), Bv false] [] [¬ (c = 42)] (by kernel_rfl) hB ⟨h3, trivial⟩ ?_
     refine ae_then ?_
     refine aw_false rfl ?_
     refine aw_seq ?_
     by_cases h4 : c = 47
     ·refine aw_reg [(0, .dec true)] [0, 3, 4] [] [.val (.int .u8 c), .val (.int .u8 c), Bv true] [] [c = 47] (by kernel_rfl) hB ⟨h4, trivial⟩ ?_
      refine ae_then ?_
      refine aw_true rfl ?_
      refine aw_skip ?_
      refine ae_then ?_
      refine aw_true rfl ?_
      refine aw_seq ?_
      refine aw_reg [] [2] [] [Bv true] [] [] (by kernel_rfl) hB trivial ?_
      refine ae_then ?_
      refine aw_ret ?_
      refine ae_ret_block (ae_ret_then ?_)
      refine ae_ret hB (Bv true) (by kernel_rfl) (.inl (by first | rfl | (refine congrArg Bv ?_; simp [labB, inB, *]; done) | (refine congrArg Bv ?_; simp [labB, inB, *]; omega) | (refine congrArg Bv ?_; simp_all [labB, inB]; done) | (refine congrArg Bv ?_; simp_all [labB, inB]; omega))) rfl (fun _ => trivial)
     ·refine aw_reg [(0, .dec false)] [0, 3, 4] [] [.val (.int .u8 c), .val (.int .u8 c), Bv false] [] [¬ (c = 47)] (by kernel_rfl) hB ⟨h4, trivial⟩ ?_
      refine ae_then ?_
      refine aw_false rfl ?_
      refine aw_seq ?_
      by_cases h5 : c = 61
      ·refine aw_reg [(0, .dec true)] [0, 3, 4] [] [.val (.int .u8 c), .val (.int .u8 c), Bv true] [] [c = 61] (by kernel_rfl) hB ⟨h5, trivial⟩ ?_
       refine ae_then ?_
       refine aw_true rfl ?_
       refine aw_skip ?_
       refine ae_then ?_
       refine aw_true rfl ?_
       refine aw_seq ?_
       refine aw_reg [] [2] [] [Bv true] [] [] (by kernel_rfl) hB trivial ?_
       refine ae_then ?_
       refine aw_ret ?_
       refine ae_ret_block (ae_ret_then ?_)
       refine ae_ret hB (Bv true) (by kernel_rfl) (.inl (by first | rfl | (refine congrArg Bv ?_; simp [labB, inB, *]; done) | (refine congrArg Bv ?_; simp [labB, inB, *]; omega) | (refine congrArg Bv ?_; simp_all [labB, inB]; done) | (refine congrArg Bv ?_; simp_all [labB, inB]; omega))) rfl (fun _ => trivial)
      ·refine aw_reg [(0, .dec false)] [0, 3, 4] [] [.val (.int .u8 c), .val (.int .u8 c), Bv false] [] [¬ (c = 61)] (by kernel_rfl) hB ⟨h5, trivial⟩ ?_
       refine ae_then ?_
       refine aw_false rfl ?_
       refine aw_seq ?_
       by_cases h6 : c = 40
       ·refine aw_reg [(0, .dec true)] [0, 3, 4] [] [.val (.int .u8 c), .val (.int .u8 c), Bv true] [] [c = 40] (by kernel_rfl) hB ⟨h6, trivial⟩ ?_
        refine ae_then ?_
        refine aw_true rfl ?_
        refine aw_skip ?_
        refine ae_then ?_
        refine aw_true rfl ?_
        refine aw_seq ?_
        refine aw_reg [] [2] [] [Bv true] [] [] (by kernel_rfl) hB trivial ?_
        refine ae_then ?_
        refine aw_ret ?_
        refine ae_ret_block (ae_ret_then ?_)
        refine ae_ret hB (Bv true) (by kernel_rfl) (.inl (by first | rfl | (refine congrArg Bv ?_; simp [labB, inB, *]; done) | (refine congrArg Bv ?_; simp [labB, inB, *]; omega) | (refine congrArg Bv ?_; simp_all [labB, inB]; done) | (refine congrArg Bv ?_; simp_all [labB, inB]; omega))) rfl (fun _ => trivial)
       ·refine aw_reg [(0, .dec false)] [0, 3, 4] [] [.val (.int .u8 c), .val (.int .u8 c), Bv false] [] [¬ (c = 40)] (by kernel_rfl) hB ⟨h6, trivial⟩ ?_
        refine ae_then ?_
        refine aw_false rfl ?_
        refine aw_seq ?_
        by_cases h7 : c = 41
        ·refine aw_reg [(0, .dec true)] [0, 3, 4] [] [.val (.int .u8 c), .val (.int .u8 c), Bv true] [] [c = 41] (by kernel_rfl) hB ⟨h7, trivial⟩ ?_
         refine ae_then ?_
         refine aw_true rfl ?_
         refine aw_skip ?_
         refine ae_then ?_
         refine aw_true rfl ?_
         refine aw_seq ?_
         refine aw_reg [] [2] [] [Bv true] [] [] (by kernel_rfl) hB trivial ?_
         refine ae_then ?_
         refine aw_ret ?_
         refine ae_ret_block (ae_ret_then ?_)
         refine ae_ret hB (Bv true) (by kernel_rfl) (.inl (by first | rfl | (refine congrArg Bv ?_; simp [labB, inB, *]; done) | (refine congrArg Bv ?_; simp [labB, inB, *]; omega) | (refine congrArg Bv ?_; simp_all [labB, inB]; done) | (refine congrArg Bv ?_; simp_all [labB, inB]; omega))) rfl (fun _ => trivial)
        ·refine aw_reg [(0, .dec false)] [0, 3, 4] [] [.val (.int .u8 c), .val (.int .u8 c), Bv false] [] [¬ (c = 41)] (by kernel_rfl) hB ⟨h7, trivial⟩ ?_
         refine ae_then ?_
         refine aw_false rfl ?_
         refine aw_seq ?_
         by_cases h8 : c = 46
         ·refine aw_reg [(0, .dec true)] [0, 3, 4] [] [.val (.int .u8 c), .val (.int .u8 c), Bv true] [] [c = 46] (by kernel_rfl) hB ⟨h8, trivial⟩ ?_
          refine ae_then ?_
          refine aw_true rfl ?_
          refine aw_skip ?_
          refine ae_then ?_
          refine aw_true rfl ?_
          refine aw_seq ?_
          refine aw_reg [] [2] [] [Bv true] [] [] (by kernel_rfl) hB trivial ?_
          refine ae_then ?_
          refine aw_ret ?_
          refine ae_ret_block (ae_ret_then ?_)
          refine ae_ret hB (Bv true) (by kernel_rfl) (.inl (by first | rfl | (refine congrArg Bv ?_; simp [labB, inB, *]; done) | (refine congrArg Bv ?_; simp [labB, inB, *]; omega) | (refine congrArg Bv ?_; simp_all [labB, inB]; done) | (refine congrArg Bv ?_; simp_all [labB, inB]; omega))) rfl (fun _ => trivial)
         ·refine aw_reg [(0, .dec false)] [0, 3, 4] [] [.val (.int .u8 c), .val (.int .u8 c), Bv false] [] [¬ (c = 46)] (by kernel_rfl) hB ⟨h8, trivial⟩ ?_
          refine ae_then ?_
          refine aw_false rfl ?_
          by_cases h9 : c = 44
          ·refine aw_reg [(0, .dec true)] [0, 4] [] [.val (.int .u8 c), Bv true] [] [c = 44] (by kernel_rfl) hB ⟨h9, trivial⟩ ?_
           refine ae_then ?_
           refine aw_true rfl ?_
           refine aw_seq ?_
           refine aw_reg [] [2] [] [Bv true] [] [] (by kernel_rfl) hB trivial ?_
           refine ae_then ?_
           refine aw_ret ?_
           refine ae_ret_block (ae_ret_then ?_)
           refine ae_ret hB (Bv true) (by kernel_rfl) (.inl (by first | rfl | (refine congrArg Bv ?_; simp [labB, inB, *]; done) | (refine congrArg Bv ?_; simp [labB, inB, *]; omega) | (refine congrArg Bv ?_; simp_all [labB, inB]; done) | (refine congrArg Bv ?_; simp_all [labB, inB]; omega))) rfl (fun _ => trivial)
          ·refine aw_reg [(0, .dec false)] [0, 4] [] [.val (.int .u8 c), Bv false] [] [¬ (c = 44)] (by kernel_rfl) hB ⟨h9, trivial⟩ ?_
           refine ae_then ?_
           refine aw_false rfl ?_
           refine aw_skip ?_
           refine ae_block 0 ?_
           refine ae_then ?_
           refine aw_seq ?_
           rcases Bool.eq_false_or_eq_true (inB c 97 122) with h10 | h10
           ·refine aw_reg [(1, .call [(true, .val (.int .u8 c))] true (Bv true))] [2] [] [Bv true] [] [Con Try.prog 81 [.val (.int .u8 c)] true (Bv true) ∧ ((.val (.int .u8 c) : AV) = .val (.int .u8 c)) ∧ True] (by kernel_rfl) hB ⟨⟨(con_bool h10 (l01Small_ok c)), rfl, trivial⟩, trivial⟩ ?_
            refine ae_then ?_
            refine aw_ret ?_
            refine ae_ret hB (Bv true) (by kernel_rfl) (.inl (by first | rfl | (refine congrArg Bv ?_; simp [labB, inB, *]; done) | (refine congrArg Bv ?_; simp [labB, inB, *]; omega) | (refine congrArg Bv ?_; simp_all [labB, inB]; done) | (refine congrArg Bv ?_; simp_all [labB, inB]; omega))) rfl (fun _ => trivial)
           ·by_cases h11 : 48 ≤ c
            ·refine aw_reg [(1, .call [(true, .val (.int .u8 c))] true (Bv false)), (4, .dec true)] [2] [] [Bv (decide (c ≤ 57))] [] [Con Try.prog 81 [.val (.int .u8 c)] true (Bv false) ∧ ((.val (.int .u8 c) : AV) = .val (.int .u8 c)) ∧ True, 48 ≤ c] (by kernel_rfl) hB ⟨⟨(con_bool h10 (l01Small_ok c)), rfl, trivial⟩, h11, trivial⟩ ?_
             refine ae_then ?_
             refine aw_ret ?_
             refine ae_ret hB (Bv (decide (c ≤ 57))) (by kernel_rfl) (.inl (by first | rfl | (refine congrArg Bv ?_; simp [labB, inB, *]; done) | (refine congrArg Bv ?_; simp [labB, inB, *]; omega) | (refine congrArg Bv ?_; simp_all [labB, inB]; done) | (refine congrArg Bv ?_; simp_all [labB, inB]; omega))) rfl (fun _ => trivial)
            ·refine aw_reg [(1, .call [(true, .val (.int .u8 c))] true (Bv false)), (4, .dec false)] [2] [] [Bv false] [] [Con Try.prog 81 [.val (.int .u8 c)] true (Bv false) ∧ ((.val (.int .u8 c) : AV) = .val (.int .u8 c)) ∧ True, ¬ (48 ≤ c)] (by kernel_rfl) hB ⟨⟨(con_bool h10 (l01Small_ok c)), rfl, trivial⟩, h11, trivial⟩ ?_
             refine ae_then ?_
             refine aw_ret ?_
             refine ae_ret hB (Bv false) (by kernel_rfl) (.inl (by first | rfl | (refine congrArg Bv ?_; simp [labB, inB, *]; done) | (refine congrArg Bv ?_; simp [labB, inB, *]; omega) | (refine congrArg Bv ?_; simp_all [labB, inB]; done) | (refine congrArg Bv ?_; simp_all [labB, inB]; omega))) rfl (fun _ => trivial)


-- spec.IsLabel
theorem specIsLabel_ok (s : ByteArray) (ok : s.size ≤ 9223372036854775807) : Con Try.prog 46 [Sv s] true (Bv (okLabel s)) := by
  refine fn_ok (fn := Try.f46) (nt := 11) Try.func46 rfl rfl rfl rfl (by simp [taggedL, tagged]) fun B hB => ?_
  refine aw_seq ?_
  refine aw_reg [] [0] [] [Sv s] [] [] (by kernel_rfl) hB trivial ?_
  refine ae_then ?_
  refine aw_seq ?_
  by_cases h1 : (s.size : Int) = 1
  ·refine aw_reg [(2, .dec true), (6, .call [(true, .val (.int .u8 (bAt s 0)))] true (Bv (labB (bAt s 0))))] [2] [] [Bv (labB (bAt s 0))] [] [(s.size : Int) = 1, (0 : Int) ≤ 0 ∧ 0 < (s.size : Int), Con Try.prog 68 [.val (.int .u8 (bAt s 0))] true (Bv (labB (bAt s 0))) ∧ ((.val (.int .u8 (bAt s 0)) : AV) = .val (.int .u8 (bAt s 0))) ∧ True] (by kernel_rfl) hB ⟨h1, ⟨(by omega), (by omega)⟩, ⟨(l11Label_ok (bAt s 0)), rfl, trivial⟩, trivial⟩ ?_
   refine ae_then ?_
   refine aw_ret ?_
   refine ae_ret hB (Bv (labB (bAt s 0))) (by kernel_rfl) (.inl (by first | rfl | (refine congrArg Bv ?_; simp [okLabel, *]; done) | (refine congrArg Bv ?_; simp [okLabel, *]; omega) | (refine congrArg Bv ?_; simp_all [okLabel]; done) | (refine congrArg Bv ?_; simp_all [okLabel]; omega))) rfl (fun _ => trivial)
  ·refine aw_reg [(2, .dec false)] [2] [] [Bv false] [] [¬ ((s.size : Int) = 1)] (by kernel_rfl) hB ⟨h1, trivial⟩ ?_
   refine ae_then ?_
   refine aw_ret ?_
   refine ae_ret hB (Bv false) (by kernel_rfl) (.inl (by first | rfl | (refine congrArg Bv ?_; simp [okLabel, *]; done) | (refine congrArg Bv ?_; simp [okLabel, *]; omega) | (refine congrArg Bv ?_; simp_all [okLabel]; done) | (refine congrArg Bv ?_; simp_all [okLabel]; omega))) rfl (fun _ => trivial)


-- spec.l00In
theorem l00In_ok (n : Int) (low : Int) (high : Int) : Con Try.prog 27 [I n, I low, I high] true (Bv (inB n low high)) := by
  refine fn_ok (fn := Try.f27) (nt := 15) Try.func27 rfl rfl rfl rfl (by simp [taggedL, tagged]) fun B hB => ?_
  refine aw_seq ?_
  refine aw_reg [] [0, 1, 2] [] [I n, I low, I high] [] [] (by kernel_rfl) hB trivial ?_
  refine ae_then ?_
  refine aw_seq ?_
  by_cases h1 : low ≤ n
  ·refine aw_reg [(2, .dec true)] [6] [] [Bv (decide (n ≤ high))] [] [low ≤ n] (by kernel_rfl) hB ⟨h1, trivial⟩ ?_
   refine ae_then ?_
   refine aw_ret ?_
   refine ae_ret hB (Bv (decide (n ≤ high))) (by kernel_rfl) (.inl (by first | rfl | (refine congrArg Bv ?_; simp [inB, *]; done) | (refine congrArg Bv ?_; simp [inB, *]; omega) | (refine congrArg Bv ?_; simp_all [inB]; done) | (refine congrArg Bv ?_; simp_all [inB]; omega))) rfl (fun _ => trivial)
  ·refine aw_reg [(2, .dec false)] [6] [] [Bv false] [] [¬ (low ≤ n)] (by kernel_rfl) hB ⟨h1, trivial⟩ ?_
   refine ae_then ?_
   refine aw_ret ?_
   refine ae_ret hB (Bv false) (by kernel_rfl) (.inl (by first | rfl | (refine congrArg Bv ?_; simp [inB, *]; done) | (refine congrArg Bv ?_; simp [inB, *]; omega) | (refine congrArg Bv ?_; simp_all [inB]; done) | (refine congrArg Bv ?_; simp_all [inB]; omega))) rfl (fun _ => trivial)


-- spec.l09Feat
theorem l09Feat_ok (f : Feat) : Con Try.prog 48 [agFeat f] true (Bv (okF f)) := by
  refine fn_ok (fn := Try.f48) (nt := 16) Try.func48 rfl rfl rfl rfl (by simp [taggedL, tagged]) fun B hB => ?_
  refine aw_seq ?_
  refine aw_reg [(0, .new 1)] [1] [1] [.ref 1 0] [some (bxFeat f)] [] (by kernel_rfl) hB trivial ?_
  refine ae_then ?_
  refine aw_seq ?_
  rcases Bool.eq_false_or_eq_true (inB f.X 0 255) with h1 | h1
  ·rcases Bool.eq_false_or_eq_true (inB f.Y 0 255) with h2 | h2
   ·refine aw_reg [(2, .call [(true, I f.X), (true, I 0), (true, I 255)] true (Bv true)), (6, .call [(true, I f.Y), (true, I 0), (true, I 255)] true (Bv true)), (11, .call [(true, I f.D), (true, I 0), (true, I 7)] true (Bv (inB f.D 0 7)))] [2] [] [Bv (inB f.D 0 7)] [] [Con Try.prog 27 [I f.X, I 0, I 255] true (Bv true) ∧ ((I f.X : AV) = I f.X) ∧ ((I 0 : AV) = I 0) ∧ ((I 255 : AV) = I 255) ∧ True, Con Try.prog 27 [I f.Y, I 0, I 255] true (Bv true) ∧ ((I f.Y : AV) = I f.Y) ∧ ((I 0 : AV) = I 0) ∧ ((I 255 : AV) = I 255) ∧ True, Con Try.prog 27 [I f.D, I 0, I 7] true (Bv (inB f.D 0 7)) ∧ ((I f.D : AV) = I f.D) ∧ ((I 0 : AV) = I 0) ∧ ((I 7 : AV) = I 7) ∧ True] (by kernel_rfl) hB ⟨⟨(con_bool h1 (l00In_ok f.X 0 255)), rfl, rfl, rfl, trivial⟩, ⟨(con_bool h2 (l00In_ok f.Y 0 255)), rfl, rfl, rfl, trivial⟩, ⟨(l00In_ok f.D 0 7), rfl, rfl, rfl, trivial⟩, trivial⟩ ?_
    refine ae_then ?_
    refine aw_ret ?_
    refine ae_ret hB (Bv (inB f.D 0 7)) (by kernel_rfl) (.inl (by first | rfl | (refine congrArg Bv ?_; simp [okF, *]; done) | (refine congrArg Bv ?_; simp [okF, *]; omega) | (refine congrArg Bv ?_; simp_all [okF]; done) | (refine congrArg Bv ?_; simp_all [okF]; omega))) rfl (fun _ => trivial)
   ·refine aw_reg [(2, .call [(true, I f.X), (true, I 0), (true, I 255)] true (Bv true)), (6, .call [(true, I f.Y), (true, I 0), (true, I 255)] true (Bv false))] [2] [] [Bv false] [] [Con Try.prog 27 [I f.X, I 0, I 255] true (Bv true) ∧ ((I f.X : AV) = I f.X) ∧ ((I 0 : AV) = I 0) ∧ ((I 255 : AV) = I 255) ∧ True, Con Try.prog 27 [I f.Y, I 0, I 255] true (Bv false) ∧ ((I f.Y : AV) = I f.Y) ∧ ((I 0 : AV) = I 0) ∧ ((I 255 : AV) = I 255) ∧ True] (by kernel_rfl) hB ⟨⟨(con_bool h1 (l00In_ok f.X 0 255)), rfl, rfl, rfl, trivial⟩, ⟨(con_bool h2 (l00In_ok f.Y 0 255)), rfl, rfl, rfl, trivial⟩, trivial⟩ ?_
    refine ae_then ?_
    refine aw_ret ?_
    refine ae_ret hB (Bv false) (by kernel_rfl) (.inl (by first | rfl | (refine congrArg Bv ?_; simp [okF, *]; done) | (refine congrArg Bv ?_; simp [okF, *]; omega) | (refine congrArg Bv ?_; simp_all [okF]; done) | (refine congrArg Bv ?_; simp_all [okF]; omega))) rfl (fun _ => trivial)
  ·refine aw_reg [(2, .call [(true, I f.X), (true, I 0), (true, I 255)] true (Bv false))] [2] [] [Bv false] [] [Con Try.prog 27 [I f.X, I 0, I 255] true (Bv false) ∧ ((I f.X : AV) = I f.X) ∧ ((I 0 : AV) = I 0) ∧ ((I 255 : AV) = I 255) ∧ True] (by kernel_rfl) hB ⟨⟨(con_bool h1 (l00In_ok f.X 0 255)), rfl, rfl, rfl, trivial⟩, trivial⟩ ?_
   refine ae_then ?_
   refine aw_ret ?_
   refine ae_ret hB (Bv false) (by kernel_rfl) (.inl (by first | rfl | (refine congrArg Bv ?_; simp [okF, *]; done) | (refine congrArg Bv ?_; simp [okF, *]; omega) | (refine congrArg Bv ?_; simp_all [okF]; done) | (refine congrArg Bv ?_; simp_all [okF]; omega))) rfl (fun _ => trivial)


-- spec.l09Ok
theorem l09Ok_ok (list : List Feat) : Con Try.prog 26 [slFeat false list] true (Bv (okFeats list 72)) := by
  refine fn_ok (fn := Try.f26) (nt := 19) Try.func26 rfl rfl rfl rfl (by simp [taggedL, tagged, tagFeat]) fun B hB => ?_
  refine aw_lens (x := slFeat false list) 0 rfl (fun len_list => ?_)
  simp [LenOK, LenL, cFeat, fFeat, slFeat] at len_list
  refine aw_seq ?_
  refine aw_reg [] [0] [] [slFeat false list] [] [] (by kernel_rfl) hB trivial ?_
  refine ae_then ?_
  refine aw_seq ?_
  refine aw_seq ?_
  refine aw_reg [] [0, 3] [] [slFeat false list, I 0] [] [] (by kernel_rfl) hB trivial ?_
  refine ae_then ?_
  refine aw_block ?_
  refine aw_loop (fun gn gσ => ∃ (i : Int), gn = ((list.length : Int) - i).toNat ∧ (0 ≤ i ∧ i ≤ (list.length : Int)) ∧ (∀ j : Nat, (j : Int) < i → okF (at_ list j) = true) ∧ gσ = mkS [(0, slFeat false list), (3, I i)] []) (((list.length : Int) - 0).toNat) ⟨0, rfl, (by omega), (by intro j hj; omega), rfl⟩ (fun gn gσ hI => ?_)
  obtain ⟨i, rfl, hi0, hall0, rfl⟩ := hI
  refine aw_seq ?_
  refine aw_seq ?_
  by_cases h1 : i < (list.length : Int)
  ·have hi : i.toNat < list.length := by omega
   refine aw_reg [(3, .dec true)] [0, 3, 7] [] [slFeat false list, I i, Bv true] [] [i < (list.length : Int)] (by kernel_rfl) hB ⟨h1, trivial⟩ ?_
   refine ae_then ?_
   refine aw_true rfl ?_
   refine aw_skip ?_
   refine ae_then ?_
   refine aw_seq ?_
   refine aw_block ?_
   refine aw_seq ?_
   rcases Bool.eq_false_or_eq_true (okF (at_ list i.toNat)) with h2 | h2
   ·refine aw_reg [(4, .call [(true, agFeat (at_ list i.toNat))] true (Bv true))] [0, 3, 15] [] [slFeat false list, I i, Bv false] [] [(0 : Int) ≤ i ∧ i < (list.length : Int), Con Try.prog 48 [agFeat (at_ list i.toNat)] true (Bv true) ∧ ((agFeat (at_ list i.toNat) : AV) = agFeat (at_ list i.toNat)) ∧ True] (by kernel_rfl) hB ⟨⟨(by omega), (by omega)⟩, ⟨(con_bool h2 (l09Feat_ok (at_ list i.toNat))), rfl, trivial⟩, trivial⟩ ?_
    refine ae_then ?_
    refine aw_false rfl ?_
    refine aw_skip ?_
    refine ae_block 1 ?_
    refine ae_then ?_
    refine aw_reg [] [0, 3] [] [slFeat false list, I (i + 1)] [] [inR .i64 (i + 1)] (by kernel_rfl) hB ⟨(inR_i64 (by omega) (by omega)), trivial⟩ ?_
    exact ae_again _ (by omega) ⟨(i + 1), rfl, (by omega), (by intro j hj; by_cases ej : j = i.toNat; (subst ej; first | assumption | exact hok); exact hall0 j (by omega)), rfl⟩
   ·have hall : allN list.length (fun j => okF (at_ list j)) = false := allN_not hi h2
    refine aw_reg [(4, .call [(true, agFeat (at_ list i.toNat))] true (Bv false))] [0, 3, 15] [] [slFeat false list, I i, Bv true] [] [(0 : Int) ≤ i ∧ i < (list.length : Int), Con Try.prog 48 [agFeat (at_ list i.toNat)] true (Bv false) ∧ ((agFeat (at_ list i.toNat) : AV) = agFeat (at_ list i.toNat)) ∧ True] (by kernel_rfl) hB ⟨⟨(by omega), (by omega)⟩, ⟨(con_bool h2 (l09Feat_ok (at_ list i.toNat))), rfl, trivial⟩, trivial⟩ ?_
    refine ae_then ?_
    refine aw_true rfl ?_
    refine aw_seq ?_
    refine aw_reg [] [2] [] [Bv false] [] [] (by kernel_rfl) hB trivial ?_
    refine ae_then ?_
    refine aw_ret ?_
    refine ae_ret_block (ae_ret_then (ae_ret_then (ae_ret_block (ae_ret_then ?_))))
    refine ae_ret hB (Bv false) (by kernel_rfl) (.inl (by first | rfl | (refine congrArg Bv ?_; simp [okFeats, inB, *]; done) | (refine congrArg Bv ?_; simp [okFeats, inB, *]; omega) | (refine congrArg Bv ?_; simp_all [okFeats, inB]; done) | (refine congrArg Bv ?_; simp_all [okFeats, inB]; omega))) rfl (fun _ => trivial)
  ·have hall : allN list.length (fun j => okF (at_ list j)) = true := allN_at (fun j hj => hall0 j (by omega))
   refine aw_reg [(3, .dec false)] [0, 3, 7] [] [slFeat false list, I i, Bv false] [] [¬ (i < (list.length : Int))] (by kernel_rfl) hB ⟨h1, trivial⟩ ?_
   refine ae_then ?_
   refine aw_false rfl ?_
   refine aw_exit ?_
   refine ae_exit_then ?_
   refine ae_exit_then ?_
   refine ae_exit_same ?_
   refine ae_then ?_
   refine aw_seq ?_
   refine aw_reg [(2, .call [(true, I (list.length : Int)), (true, I 1), (true, I 72)] true (Bv (inB (list.length : Int) 1 72)))] [2] [] [Bv (inB (list.length : Int) 1 72)] [] [Con Try.prog 27 [I (list.length : Int), I 1, I 72] true (Bv (inB (list.length : Int) 1 72)) ∧ ((I (list.length : Int) : AV) = I (list.length : Int)) ∧ ((I 1 : AV) = I 1) ∧ ((I 72 : AV) = I 72) ∧ True] (by kernel_rfl) hB ⟨⟨(l00In_ok (list.length : Int) 1 72), rfl, rfl, rfl, trivial⟩, trivial⟩ ?_
   refine ae_then ?_
   refine aw_ret ?_
   refine ae_ret hB (Bv (inB (list.length : Int) 1 72)) (by kernel_rfl) (.inl (by first | rfl | (refine congrArg Bv ?_; simp [okFeats, inB, *]; done) | (refine congrArg Bv ?_; simp [okFeats, inB, *]; omega) | (refine congrArg Bv ?_; simp_all [okFeats, inB]; done) | (refine congrArg Bv ?_; simp_all [okFeats, inB]; omega))) rfl (fun _ => trivial)


-- spec.l24Near
theorem l24Near_ok (a : Feat) (b : Feat) (ha : okF a = true) (hb : okF b = true) : Con Try.prog 47 [agFeat a, agFeat b] true (Bv (nearB a b)) := by
  have ha' := okF_iff.1 ha
  have hb' := okF_iff.1 hb
  refine fn_ok (fn := Try.f47) (nt := 28) Try.func47 rfl rfl rfl rfl (by simp [taggedL, tagged]) fun B hB => ?_
  refine aw_seq ?_
  refine aw_reg [(0, .new 2), (1, .new 3)] [2, 3] [2, 3] [.ref 2 0, .ref 3 0] [some (bxFeat a), some (bxFeat b)] [] (by kernel_rfl) hB trivial ?_
  refine ae_then ?_
  refine aw_seq ?_
  by_cases h1 : a.D = b.D
  ·by_cases h2 : ((a.X - b.X).natAbs : Int) ≤ 40
   ·refine aw_reg [(4, .dec true), (11, .call [(true, I (a.X - b.X))] true (I ((a.X - b.X).natAbs : Int))), (12, .dec true), (20, .call [(true, I (a.Y - b.Y))] true (I ((a.Y - b.Y).natAbs : Int)))] [4] [] [Bv (decide (((a.Y - b.Y).natAbs : Int) ≤ 40))] [] [a.D = b.D, inR .i64 (a.X - b.X), Con Try.prog 49 [I (a.X - b.X)] true (I ((a.X - b.X).natAbs : Int)) ∧ ((I (a.X - b.X) : AV) = I (a.X - b.X)) ∧ True, ((a.X - b.X).natAbs : Int) ≤ 40, inR .i64 (a.Y - b.Y), Con Try.prog 49 [I (a.Y - b.Y)] true (I ((a.Y - b.Y).natAbs : Int)) ∧ ((I (a.Y - b.Y) : AV) = I (a.Y - b.Y)) ∧ True] (by kernel_rfl) hB ⟨h1, (inR_i64 (by omega) (by omega)), ⟨(l09Size_ok (a.X - b.X) (by omega)), rfl, trivial⟩, h2, (inR_i64 (by omega) (by omega)), ⟨(l09Size_ok (a.Y - b.Y) (by omega)), rfl, trivial⟩, trivial⟩ ?_
    refine ae_then ?_
    refine aw_ret ?_
    refine ae_ret hB (Bv (decide (((a.Y - b.Y).natAbs : Int) ≤ 40))) (by kernel_rfl) (.inl (by first | rfl | (refine congrArg Bv ?_; simp [nearB, *]; done) | (refine congrArg Bv ?_; simp [nearB, *]; omega) | (refine congrArg Bv ?_; simp_all [nearB]; done) | (refine congrArg Bv ?_; simp_all [nearB]; omega))) rfl (fun _ => trivial)
   ·refine aw_reg [(4, .dec true), (11, .call [(true, I (a.X - b.X))] true (I ((a.X - b.X).natAbs : Int))), (12, .dec false)] [4] [] [Bv false] [] [a.D = b.D, inR .i64 (a.X - b.X), Con Try.prog 49 [I (a.X - b.X)] true (I ((a.X - b.X).natAbs : Int)) ∧ ((I (a.X - b.X) : AV) = I (a.X - b.X)) ∧ True, ¬ (((a.X - b.X).natAbs : Int) ≤ 40)] (by kernel_rfl) hB ⟨h1, (inR_i64 (by omega) (by omega)), ⟨(l09Size_ok (a.X - b.X) (by omega)), rfl, trivial⟩, h2, trivial⟩ ?_
    refine ae_then ?_
    refine aw_ret ?_
    refine ae_ret hB (Bv false) (by kernel_rfl) (.inl (by first | rfl | (refine congrArg Bv ?_; simp [nearB, *]; done) | (refine congrArg Bv ?_; simp [nearB, *]; omega) | (refine congrArg Bv ?_; simp_all [nearB]; done) | (refine congrArg Bv ?_; simp_all [nearB]; omega))) rfl (fun _ => trivial)
  ·refine aw_reg [(4, .dec false)] [4] [] [Bv false] [] [¬ (a.D = b.D)] (by kernel_rfl) hB ⟨h1, trivial⟩ ?_
   refine ae_then ?_
   refine aw_ret ?_
   refine ae_ret hB (Bv false) (by kernel_rfl) (.inl (by first | rfl | (refine congrArg Bv ?_; simp [nearB, *]; done) | (refine congrArg Bv ?_; simp [nearB, *]; omega) | (refine congrArg Bv ?_; simp_all [nearB]; done) | (refine congrArg Bv ?_; simp_all [nearB]; omega))) rfl (fun _ => trivial)


-- spec.l24Ok
theorem l24Ok_ok (t : Trained) (ok : okTrained t) : Con Try.prog 25 [.ptr false [Sv t.Label, slFeat false t.Base, slFeat false t.Feats, I t.Count]] true (Bv (okTrained' t)) := by
  refine fn_ok (fn := Try.f25) (nt := 69) Try.func25 rfl rfl rfl rfl (by simp [taggedL, tagged, tagFeat]) fun B hB => ?_
  refine aw_lens (x := .ptr false [Sv t.Label, slFeat false t.Base, slFeat false t.Feats, I t.Count]) 0 rfl (fun len_t => ?_)
  simp [LenOK, LenL, cFeat, fFeat, slFeat] at len_t
  refine aw_seq ?_
  refine aw_reg [] [0] [] [.ptr false [Sv t.Label, slFeat false t.Base, slFeat false t.Feats, I t.Count]] [] [] (by kernel_rfl) hB trivial ?_
  refine ae_then ?_
  refine aw_seq ?_
  refine aw_seq ?_
  rcases Bool.eq_false_or_eq_true (okLabel t.Label) with h1 | h1
  ·rcases Bool.eq_false_or_eq_true (okFeats t.Base 72) with h2 | h2
   ·rcases Bool.eq_false_or_eq_true (okFeats t.Feats 72) with h3 | h3
    ·by_cases h4 : (t.Base.length : Int) = (t.Feats.length : Int)
     ·refine aw_reg [(4, .call [(true, Sv t.Label)] true (Bv true)), (11, .call [(true, slFeat false t.Base)] true (Bv true)), (19, .call [(true, slFeat false t.Feats)] true (Bv true)), (33, .dec false)] [0, 38] [] [.ptr false [Sv t.Label, slFeat false t.Base, slFeat false t.Feats, I t.Count], Bv false] [] [Con Try.prog 46 [Sv t.Label] true (Bv true) ∧ ((Sv t.Label : AV) = Sv t.Label) ∧ True, Con Try.prog 26 [slFeat false t.Base] true (Bv true) ∧ ((slFeat false t.Base : AV) = slFeat false t.Base) ∧ True, Con Try.prog 26 [slFeat false t.Feats] true (Bv true) ∧ ((slFeat false t.Feats : AV) = slFeat false t.Feats) ∧ True, ¬ ((t.Base.length : Int) ≠ (t.Feats.length : Int))] (by kernel_rfl) hB ⟨⟨(con_bool h1 (specIsLabel_ok t.Label ok)), rfl, trivial⟩, ⟨(con_bool h2 (l09Ok_ok t.Base)), rfl, trivial⟩, ⟨(con_bool h3 (l09Ok_ok t.Feats)), rfl, trivial⟩, (fun hq => hq h4), trivial⟩ ?_
      refine ae_then ?_
      refine aw_false rfl ?_
      refine aw_skip ?_
      refine ae_then ?_
      refine aw_seq ?_
      refine aw_seq ?_
      refine aw_reg [] [0, 3] [] [.ptr false [Sv t.Label, slFeat false t.Base, slFeat false t.Feats, I t.Count], I 0] [] [] (by kernel_rfl) hB trivial ?_
      refine ae_then ?_
      refine aw_block ?_
      refine aw_loop (fun gn gσ => ∃ (i : Int), gn = ((t.Base.length : Int) - i).toNat ∧ (0 ≤ i ∧ i ≤ (t.Base.length : Int)) ∧ (∀ j : Nat, (j : Int) < i → nearB (at_ t.Base j) (at_ t.Feats j) = true) ∧ gσ = mkS [(0, .ptr false [Sv t.Label, slFeat false t.Base, slFeat false t.Feats, I t.Count]), (3, I i)] []) (((t.Base.length : Int) - 0).toNat) ⟨0, rfl, (by omega), (by intro j hj; omega), rfl⟩ (fun gn gσ hI => ?_)
      obtain ⟨i, rfl, hir, hall0, rfl⟩ := hI
      refine aw_seq ?_
      refine aw_seq ?_
      by_cases h5 : i < (t.Base.length : Int)
      ·have hi : i.toNat < t.Base.length := by omega
       have hi0 : i.toNat < t.Feats.length := by omega
       refine aw_reg [(6, .dec true)] [0, 3, 45] [] [.ptr false [Sv t.Label, slFeat false t.Base, slFeat false t.Feats, I t.Count], I i, Bv true] [] [i < (t.Base.length : Int)] (by kernel_rfl) hB ⟨h5, trivial⟩ ?_
       refine ae_then ?_
       refine aw_true rfl ?_
       refine aw_skip ?_
       refine ae_then ?_
       refine aw_seq ?_
       refine aw_block ?_
       refine aw_seq ?_
       rcases Bool.eq_false_or_eq_true (nearB (at_ t.Base i.toNat) (at_ t.Feats i.toNat)) with h6 | h6
       ·refine aw_reg [(14, .call [(true, agFeat (at_ t.Base i.toNat)), (true, agFeat (at_ t.Feats i.toNat))] true (Bv true))] [0, 3, 63] [] [.ptr false [Sv t.Label, slFeat false t.Base, slFeat false t.Feats, I t.Count], I i, Bv false] [] [(0 : Int) ≤ i ∧ i < (t.Base.length : Int), (0 : Int) ≤ i ∧ i < (t.Feats.length : Int), Con Try.prog 47 [agFeat (at_ t.Base i.toNat), agFeat (at_ t.Feats i.toNat)] true (Bv true) ∧ ((agFeat (at_ t.Base i.toNat) : AV) = agFeat (at_ t.Base i.toNat)) ∧ ((agFeat (at_ t.Feats i.toNat) : AV) = agFeat (at_ t.Feats i.toNat)) ∧ True] (by kernel_rfl) hB ⟨⟨(by omega), (by omega)⟩, ⟨(by omega), (by omega)⟩, ⟨(con_bool h6 (l24Near_ok (at_ t.Base i.toNat) (at_ t.Feats i.toNat) (okFeats_at (by assumption) hi) (okFeats_at (by assumption) hi0))), rfl, rfl, trivial⟩, trivial⟩ ?_
        refine ae_then ?_
        refine aw_false rfl ?_
        refine aw_skip ?_
        refine ae_block 1 ?_
        refine ae_then ?_
        refine aw_reg [] [0, 3] [] [.ptr false [Sv t.Label, slFeat false t.Base, slFeat false t.Feats, I t.Count], I (i + 1)] [] [inR .i64 (i + 1)] (by kernel_rfl) hB ⟨(inR_i64 (by omega) (by omega)), trivial⟩ ?_
        exact ae_again _ (by omega) ⟨(i + 1), rfl, (by omega), (by intro j hj; by_cases ej : j = i.toNat; (subst ej; first | assumption | exact hok); exact hall0 j (by omega)), rfl⟩
       ·have hall : allN t.Base.length (fun j => nearB (at_ t.Base j) (at_ t.Feats j)) = false := allN_not hi h6
        refine aw_reg [(14, .call [(true, agFeat (at_ t.Base i.toNat)), (true, agFeat (at_ t.Feats i.toNat))] true (Bv false))] [0, 3, 63] [] [.ptr false [Sv t.Label, slFeat false t.Base, slFeat false t.Feats, I t.Count], I i, Bv true] [] [(0 : Int) ≤ i ∧ i < (t.Base.length : Int), (0 : Int) ≤ i ∧ i < (t.Feats.length : Int), Con Try.prog 47 [agFeat (at_ t.Base i.toNat), agFeat (at_ t.Feats i.toNat)] true (Bv false) ∧ ((agFeat (at_ t.Base i.toNat) : AV) = agFeat (at_ t.Base i.toNat)) ∧ ((agFeat (at_ t.Feats i.toNat) : AV) = agFeat (at_ t.Feats i.toNat)) ∧ True] (by kernel_rfl) hB ⟨⟨(by omega), (by omega)⟩, ⟨(by omega), (by omega)⟩, ⟨(con_bool h6 (l24Near_ok (at_ t.Base i.toNat) (at_ t.Feats i.toNat) (okFeats_at (by assumption) hi) (okFeats_at (by assumption) hi0))), rfl, rfl, trivial⟩, trivial⟩ ?_
        refine ae_then ?_
        refine aw_true rfl ?_
        refine aw_seq ?_
        refine aw_reg [] [2] [] [Bv false] [] [] (by kernel_rfl) hB trivial ?_
        refine ae_then ?_
        refine aw_ret ?_
        refine ae_ret_block (ae_ret_then (ae_ret_then (ae_ret_block (ae_ret_then ?_))))
        refine ae_ret hB (Bv false) (by kernel_rfl) (.inl (by first | rfl | (refine congrArg Bv ?_; simp [okTrained', inB, *]; done) | (refine congrArg Bv ?_; simp [okTrained', inB, *]; omega) | (refine congrArg Bv ?_; simp_all [okTrained', inB]; done) | (refine congrArg Bv ?_; simp_all [okTrained', inB]; omega))) rfl (fun _ => trivial)
      ·have hall : allN t.Base.length (fun j => nearB (at_ t.Base j) (at_ t.Feats j)) = true := allN_at (fun j hj => hall0 j (by omega))
       refine aw_reg [(6, .dec false)] [0, 3, 45] [] [.ptr false [Sv t.Label, slFeat false t.Base, slFeat false t.Feats, I t.Count], I i, Bv false] [] [¬ (i < (t.Base.length : Int))] (by kernel_rfl) hB ⟨h5, trivial⟩ ?_
       refine ae_then ?_
       refine aw_false rfl ?_
       refine aw_exit ?_
       refine ae_exit_then ?_
       refine ae_exit_then ?_
       refine ae_exit_same ?_
       refine ae_then ?_
       refine aw_seq ?_
       refine aw_reg [(4, .call [(true, I t.Count), (true, I 0), (true, I 100)] true (Bv (inB t.Count 0 100)))] [2] [] [Bv (inB t.Count 0 100)] [] [Con Try.prog 27 [I t.Count, I 0, I 100] true (Bv (inB t.Count 0 100)) ∧ ((I t.Count : AV) = I t.Count) ∧ ((I 0 : AV) = I 0) ∧ ((I 100 : AV) = I 100) ∧ True] (by kernel_rfl) hB ⟨⟨(l00In_ok t.Count 0 100), rfl, rfl, rfl, trivial⟩, trivial⟩ ?_
       refine ae_then ?_
       refine aw_ret ?_
       refine ae_ret hB (Bv (inB t.Count 0 100)) (by kernel_rfl) (.inl (by first | rfl | (refine congrArg Bv ?_; simp [okTrained', inB, *]; done) | (refine congrArg Bv ?_; simp [okTrained', inB, *]; omega) | (refine congrArg Bv ?_; simp_all [okTrained', inB]; done) | (refine congrArg Bv ?_; simp_all [okTrained', inB]; omega))) rfl (fun _ => trivial)
     ·refine aw_reg [(4, .call [(true, Sv t.Label)] true (Bv true)), (11, .call [(true, slFeat false t.Base)] true (Bv true)), (19, .call [(true, slFeat false t.Feats)] true (Bv true)), (33, .dec true)] [0, 38] [] [.ptr false [Sv t.Label, slFeat false t.Base, slFeat false t.Feats, I t.Count], Bv true] [] [Con Try.prog 46 [Sv t.Label] true (Bv true) ∧ ((Sv t.Label : AV) = Sv t.Label) ∧ True, Con Try.prog 26 [slFeat false t.Base] true (Bv true) ∧ ((slFeat false t.Base : AV) = slFeat false t.Base) ∧ True, Con Try.prog 26 [slFeat false t.Feats] true (Bv true) ∧ ((slFeat false t.Feats : AV) = slFeat false t.Feats) ∧ True, (t.Base.length : Int) ≠ (t.Feats.length : Int)] (by kernel_rfl) hB ⟨⟨(con_bool h1 (specIsLabel_ok t.Label ok)), rfl, trivial⟩, ⟨(con_bool h2 (l09Ok_ok t.Base)), rfl, trivial⟩, ⟨(con_bool h3 (l09Ok_ok t.Feats)), rfl, trivial⟩, h4, trivial⟩ ?_
      refine ae_then ?_
      refine aw_true rfl ?_
      refine aw_seq ?_
      refine aw_reg [] [2] [] [Bv false] [] [] (by kernel_rfl) hB trivial ?_
      refine ae_then ?_
      refine aw_ret ?_
      refine ae_ret_then ?_
      refine ae_ret hB (Bv false) (by kernel_rfl) (.inl (by first | rfl | (refine congrArg Bv ?_; simp [okTrained', inB, *]; done) | (refine congrArg Bv ?_; simp [okTrained', inB, *]; omega) | (refine congrArg Bv ?_; simp_all [okTrained', inB]; done) | (refine congrArg Bv ?_; simp_all [okTrained', inB]; omega))) rfl (fun _ => trivial)
    ·refine aw_reg [(4, .call [(true, Sv t.Label)] true (Bv true)), (11, .call [(true, slFeat false t.Base)] true (Bv true)), (19, .call [(true, slFeat false t.Feats)] true (Bv false))] [0, 38] [] [.ptr false [Sv t.Label, slFeat false t.Base, slFeat false t.Feats, I t.Count], Bv true] [] [Con Try.prog 46 [Sv t.Label] true (Bv true) ∧ ((Sv t.Label : AV) = Sv t.Label) ∧ True, Con Try.prog 26 [slFeat false t.Base] true (Bv true) ∧ ((slFeat false t.Base : AV) = slFeat false t.Base) ∧ True, Con Try.prog 26 [slFeat false t.Feats] true (Bv false) ∧ ((slFeat false t.Feats : AV) = slFeat false t.Feats) ∧ True] (by kernel_rfl) hB ⟨⟨(con_bool h1 (specIsLabel_ok t.Label ok)), rfl, trivial⟩, ⟨(con_bool h2 (l09Ok_ok t.Base)), rfl, trivial⟩, ⟨(con_bool h3 (l09Ok_ok t.Feats)), rfl, trivial⟩, trivial⟩ ?_
     refine ae_then ?_
     refine aw_true rfl ?_
     refine aw_seq ?_
     refine aw_reg [] [2] [] [Bv false] [] [] (by kernel_rfl) hB trivial ?_
     refine ae_then ?_
     refine aw_ret ?_
     refine ae_ret_then ?_
     refine ae_ret hB (Bv false) (by kernel_rfl) (.inl (by first | rfl | (refine congrArg Bv ?_; simp [okTrained', inB, *]; done) | (refine congrArg Bv ?_; simp [okTrained', inB, *]; omega) | (refine congrArg Bv ?_; simp_all [okTrained', inB]; done) | (refine congrArg Bv ?_; simp_all [okTrained', inB]; omega))) rfl (fun _ => trivial)
   ·refine aw_reg [(4, .call [(true, Sv t.Label)] true (Bv true)), (11, .call [(true, slFeat false t.Base)] true (Bv false))] [0, 38] [] [.ptr false [Sv t.Label, slFeat false t.Base, slFeat false t.Feats, I t.Count], Bv true] [] [Con Try.prog 46 [Sv t.Label] true (Bv true) ∧ ((Sv t.Label : AV) = Sv t.Label) ∧ True, Con Try.prog 26 [slFeat false t.Base] true (Bv false) ∧ ((slFeat false t.Base : AV) = slFeat false t.Base) ∧ True] (by kernel_rfl) hB ⟨⟨(con_bool h1 (specIsLabel_ok t.Label ok)), rfl, trivial⟩, ⟨(con_bool h2 (l09Ok_ok t.Base)), rfl, trivial⟩, trivial⟩ ?_
    refine ae_then ?_
    refine aw_true rfl ?_
    refine aw_seq ?_
    refine aw_reg [] [2] [] [Bv false] [] [] (by kernel_rfl) hB trivial ?_
    refine ae_then ?_
    refine aw_ret ?_
    refine ae_ret_then ?_
    refine ae_ret hB (Bv false) (by kernel_rfl) (.inl (by first | rfl | (refine congrArg Bv ?_; simp [okTrained', inB, *]; done) | (refine congrArg Bv ?_; simp [okTrained', inB, *]; omega) | (refine congrArg Bv ?_; simp_all [okTrained', inB]; done) | (refine congrArg Bv ?_; simp_all [okTrained', inB]; omega))) rfl (fun _ => trivial)
  ·refine aw_reg [(4, .call [(true, Sv t.Label)] true (Bv false))] [0, 38] [] [.ptr false [Sv t.Label, slFeat false t.Base, slFeat false t.Feats, I t.Count], Bv true] [] [Con Try.prog 46 [Sv t.Label] true (Bv false) ∧ ((Sv t.Label : AV) = Sv t.Label) ∧ True] (by kernel_rfl) hB ⟨⟨(con_bool h1 (specIsLabel_ok t.Label ok)), rfl, trivial⟩, trivial⟩ ?_
   refine ae_then ?_
   refine aw_true rfl ?_
   refine aw_seq ?_
   refine aw_reg [] [2] [] [Bv false] [] [] (by kernel_rfl) hB trivial ?_
   refine ae_then ?_
   refine aw_ret ?_
   refine ae_ret_then ?_
   refine ae_ret hB (Bv false) (by kernel_rfl) (.inl (by first | rfl | (refine congrArg Bv ?_; simp [okTrained', inB, *]; done) | (refine congrArg Bv ?_; simp [okTrained', inB, *]; omega) | (refine congrArg Bv ?_; simp_all [okTrained', inB]; done) | (refine congrArg Bv ?_; simp_all [okTrained', inB]; omega))) rfl (fun _ => trivial)


-- spec.ValidTrained
theorem specValidTrained_ok (t : Trained) (ok_t : okTrained t) : Con Try.prog 20 [agTrained t] true (Bv (okTrained' t)) := by
  refine fn_ok (fn := Try.f20) (nt := 4) Try.func20 rfl rfl rfl rfl (by simp [taggedL, tagged, tagFeat]) fun B hB => ?_
  refine aw_lens (x := agTrained t) 0 rfl (fun len_t => ?_)
  simp [LenOK, LenL, cFeat, fFeat, slFeat] at len_t
  refine aw_seq ?_
  refine aw_reg [(0, .new 1)] [1] [1] [.ref 1 0] [some (bxTrained t)] [] (by kernel_rfl) hB trivial ?_
  refine ae_then ?_
  refine aw_seq ?_
  refine aw_reg [(0, .call [(false, .ptr false [Sv t.Label, slFeat false t.Base, slFeat false t.Feats, I t.Count])] true (Bv (okTrained' t)))] [2] [] [Bv (okTrained' t)] [] [Con Try.prog 25 [.ptr false [Sv t.Label, slFeat false t.Base, slFeat false t.Feats, I t.Count]] true (Bv (okTrained' t)) ∧ ((false = true → true = true) ∧ AV.idsL [Sv t.Label, slFeat false t.Base, slFeat false t.Feats, I t.Count] = [] ∧ (valOf (Sv t.Label) = valOf (Sv t.Label)) ∧ ((false = true → false = true) ∧ 3 = 3 ∧ t.Base.length = t.Base.length ∧ ∀ i, i < t.Base.length → (fFeat t.Base) i = (fFeat t.Base) i ∨ (AV.idsL ((fFeat t.Base) i) = [] ∧ leL (fun _ => none) false ((fFeat t.Base) i) ((fFeat t.Base) i))) ∧ ((false = true → false = true) ∧ 3 = 3 ∧ t.Feats.length = t.Feats.length ∧ ∀ i, i < t.Feats.length → (fFeat t.Feats) i = (fFeat t.Feats) i ∨ (AV.idsL ((fFeat t.Feats) i) = [] ∧ leL (fun _ => none) false ((fFeat t.Feats) i) ((fFeat t.Feats) i))) ∧ (valOf (I t.Count) = valOf (I t.Count)) ∧ ([] : List AV) = []) ∧ True] (by kernel_rfl) hB ⟨⟨(l24Ok_ok t ok_t), ⟨(fun h => by cases h), rfl, ⟨rfl, ⟨⟨(fun h => by cases h), rfl, rfl, fun i _ => .inl rfl⟩, ⟨⟨(fun h => by cases h), rfl, rfl, fun i _ => .inl rfl⟩, ⟨rfl, rfl⟩⟩⟩⟩⟩, trivial⟩, trivial⟩ ?_
  refine ae_then ?_
  refine aw_ret ?_
  refine ae_ret hB (Bv (okTrained' t)) (by kernel_rfl) (.inl rfl) rfl (fun _ => trivial)


def sameL {α : Type} [Inhabited α] [DecidableEq α] (a b : List α) : Bool := decide (a.length = b.length) && allN a.length (fun j => decide (at_ a j = at_ b j))
theorem sameL_refl {α : Type} [Inhabited α] [DecidableEq α] (a : List α) : sameL a a = true := by simp [sameL, allN_iff]

theorem feat_ext {a b : Feat} (h1 : a.X = b.X) (h2 : a.Y = b.Y) (h3 : a.D = b.D) : a = b := by
  cases a; cases b; simp_all

-- spec.l08Same
theorem l08Same_ok (a : List Feat) (b : List Feat) : Con Try.prog 41 [slFeat false a, slFeat false b] true (Bv (sameL a b)) := by
  refine fn_ok (fn := Try.f41) (nt := 26) Try.func41 rfl rfl rfl rfl (by simp [taggedL, tagged, tagFeat]) fun B hB => ?_
  refine aw_lens (x := slFeat false a) 0 rfl (fun len_a => ?_)
  simp [LenOK, LenL, cFeat, fFeat, slFeat] at len_a
  refine aw_lens (x := slFeat false b) 1 rfl (fun len_b => ?_)
  simp [LenOK, LenL, cFeat, fFeat, slFeat] at len_b
  refine aw_seq ?_
  refine aw_reg [] [0, 1] [] [slFeat false a, slFeat false b] [] [] (by kernel_rfl) hB trivial ?_
  refine ae_then ?_
  refine aw_seq ?_
  refine aw_seq ?_
  by_cases h1 : (a.length : Int) = (b.length : Int)
  ·have hlen : a.length = b.length := by omega
   refine aw_reg [(4, .dec false)] [0, 1, 10] [] [slFeat false a, slFeat false b, Bv false] [] [¬ ((a.length : Int) ≠ (b.length : Int))] (by kernel_rfl) hB ⟨(fun hq => hq h1), trivial⟩ ?_
   refine ae_then ?_
   refine aw_false rfl ?_
   refine aw_skip ?_
   refine ae_then ?_
   refine aw_seq ?_
   refine aw_seq ?_
   refine aw_reg [] [0, 1, 5] [] [slFeat false a, slFeat false b, I 0] [] [] (by kernel_rfl) hB trivial ?_
   refine ae_then ?_
   refine aw_block ?_
   refine aw_loop (fun gn gσ => ∃ (i : Int), gn = ((a.length : Int) - i).toNat ∧ (0 ≤ i ∧ i ≤ (a.length : Int)) ∧ (∀ j : Nat, (j : Int) < i → decide (at_ a j = at_ b j) = true) ∧ gσ = mkS [(0, slFeat false a), (1, slFeat false b), (5, I i)] []) (((a.length : Int) - 0).toNat) ⟨0, rfl, (by omega), (by intro j hj; omega), rfl⟩ (fun gn gσ hI => ?_)
   obtain ⟨i, rfl, hi0, hall0, rfl⟩ := hI
   refine aw_seq ?_
   refine aw_seq ?_
   by_cases h2 : i < (a.length : Int)
   ·have hi : i.toNat < a.length := by omega
    refine aw_reg [(3, .dec true)] [0, 1, 5, 14] [] [slFeat false a, slFeat false b, I i, Bv true] [] [i < (a.length : Int)] (by kernel_rfl) hB ⟨h2, trivial⟩ ?_
    refine ae_then ?_
    refine aw_true rfl ?_
    refine aw_skip ?_
    refine ae_then ?_
    refine aw_seq ?_
    refine aw_block ?_
    refine aw_seq ?_
    by_cases h3 : ((at_ a i.toNat).X) = ((at_ b i.toNat).X) ∧ ((at_ a i.toNat).Y) = ((at_ b i.toNat).Y) ∧ ((at_ a i.toNat).D) = ((at_ b i.toNat).D) ∧ True
    ·have hok : decide (at_ a i.toNat = at_ b i.toNat) = true := decide_eq_true (feat_ext h3.1 h3.2.1 h3.2.2.1)
     refine aw_reg [(8, .dec false)] [0, 1, 5, 25] [] [slFeat false a, slFeat false b, I i, Bv false] [] [(0 : Int) ≤ i ∧ i < (a.length : Int), (0 : Int) ≤ i ∧ i < (b.length : Int), ¬ (¬ (((at_ a i.toNat).X) = ((at_ b i.toNat).X) ∧ ((at_ a i.toNat).Y) = ((at_ b i.toNat).Y) ∧ ((at_ a i.toNat).D) = ((at_ b i.toNat).D) ∧ True))] (by kernel_rfl) hB ⟨⟨(by omega), (by omega)⟩, ⟨(by omega), (by omega)⟩, (fun hq => hq h3), trivial⟩ ?_
     refine ae_then ?_
     refine aw_false rfl ?_
     refine aw_skip ?_
     refine ae_block 1 ?_
     refine ae_then ?_
     refine aw_reg [] [0, 1, 5] [] [slFeat false a, slFeat false b, I (i + 1)] [] [inR .i64 (i + 1)] (by kernel_rfl) hB ⟨(inR_i64 (by omega) (by omega)), trivial⟩ ?_
     exact ae_again _ (by omega) ⟨(i + 1), rfl, (by omega), (by intro j hj; by_cases ej : j = i.toNat; (subst ej; first | assumption | exact hok); exact hall0 j (by omega)), rfl⟩
    ·have hall : allN a.length (fun j => decide (at_ a j = at_ b j)) = false := allN_not hi (decide_eq_false (fun e => h3 ⟨by rw [e], by rw [e], by rw [e], trivial⟩))
     refine aw_reg [(8, .dec true)] [0, 1, 5, 25] [] [slFeat false a, slFeat false b, I i, Bv true] [] [(0 : Int) ≤ i ∧ i < (a.length : Int), (0 : Int) ≤ i ∧ i < (b.length : Int), ¬ (((at_ a i.toNat).X) = ((at_ b i.toNat).X) ∧ ((at_ a i.toNat).Y) = ((at_ b i.toNat).Y) ∧ ((at_ a i.toNat).D) = ((at_ b i.toNat).D) ∧ True)] (by kernel_rfl) hB ⟨⟨(by omega), (by omega)⟩, ⟨(by omega), (by omega)⟩, h3, trivial⟩ ?_
     refine ae_then ?_
     refine aw_true rfl ?_
     refine aw_seq ?_
     refine aw_reg [] [4] [] [Bv false] [] [] (by kernel_rfl) hB trivial ?_
     refine ae_then ?_
     refine aw_ret ?_
     refine ae_ret_block (ae_ret_then (ae_ret_then (ae_ret_block (ae_ret_then ?_))))
     refine ae_ret hB (Bv false) (by kernel_rfl) (.inl (by first | (simp [sameL, hlen]; done) | (unfold sameL; rw [hall]; simp [hlen]))) rfl (fun _ => trivial)
   ·have hall : allN a.length (fun j => decide (at_ a j = at_ b j)) = true := allN_at (fun j hj => hall0 j (by omega))
    refine aw_reg [(3, .dec false)] [0, 1, 5, 14] [] [slFeat false a, slFeat false b, I i, Bv false] [] [¬ (i < (a.length : Int))] (by kernel_rfl) hB ⟨h2, trivial⟩ ?_
    refine ae_then ?_
    refine aw_false rfl ?_
    refine aw_exit ?_
    refine ae_exit_then ?_
    refine ae_exit_then ?_
    refine ae_exit_same ?_
    refine ae_then ?_
    refine aw_seq ?_
    refine aw_reg [] [4] [] [Bv true] [] [] (by kernel_rfl) hB trivial ?_
    refine ae_then ?_
    refine aw_ret ?_
    refine ae_ret hB (Bv true) (by kernel_rfl) (.inl (by first | (simp [sameL, hlen]; done) | (unfold sameL; rw [hall]; simp [hlen]))) rfl (fun _ => trivial)
  ·have hlen : ¬ a.length = b.length := by omega
   refine aw_reg [(4, .dec true)] [0, 1, 10] [] [slFeat false a, slFeat false b, Bv true] [] [(a.length : Int) ≠ (b.length : Int)] (by kernel_rfl) hB ⟨h1, trivial⟩ ?_
   refine ae_then ?_
   refine aw_true rfl ?_
   refine aw_seq ?_
   refine aw_reg [] [4] [] [Bv false] [] [] (by kernel_rfl) hB trivial ?_
   refine ae_then ?_
   refine aw_ret ?_
   refine ae_ret_then ?_
   refine ae_ret hB (Bv false) (by kernel_rfl) (.inl (by first | (simp [sameL, hlen]; done) | (unfold sameL; rw [hall]; simp [hlen]))) rfl (fun _ => trivial)


-- spec.SameFeats
theorem specSameFeats_ok (a : List Feat) (b : List Feat) : Con Try.prog 21 [slFeat false a, slFeat false b] true (Bv (sameL a b)) := by
  refine fn_ok (fn := Try.f21) (nt := 8) Try.func21 rfl rfl rfl rfl (by simp [taggedL, tagged, tagFeat]) fun B hB => ?_
  refine aw_lens (x := slFeat false a) 0 rfl (fun len_a => ?_)
  simp [LenOK, LenL, cFeat, fFeat, slFeat] at len_a
  refine aw_lens (x := slFeat false b) 1 rfl (fun len_b => ?_)
  simp [LenOK, LenL, cFeat, fFeat, slFeat] at len_b
  refine aw_seq ?_
  refine aw_reg [] [0, 1] [] [slFeat false a, slFeat false b] [] [] (by kernel_rfl) hB trivial ?_
  refine ae_then ?_
  refine aw_seq ?_
  refine aw_reg [(2, .call [(true, slFeat false a), (true, slFeat false b)] true (Bv (sameL a b)))] [4] [] [Bv (sameL a b)] [] [Con Try.prog 41 [slFeat false a, slFeat false b] true (Bv (sameL a b)) ∧ ((slFeat false a : AV) = slFeat false a) ∧ ((slFeat false b : AV) = slFeat false b) ∧ True] (by kernel_rfl) hB ⟨⟨(l08Same_ok a b), rfl, rfl, trivial⟩, trivial⟩ ?_
  refine ae_then ?_
  refine aw_ret ?_
  refine ae_ret hB (Bv (sameL a b)) (by kernel_rfl) (.inl rfl) rfl (fun _ => trivial)


def elCode (a b : List Feat) (band : Int) : Int := if okFeats a 72 = true ∧ okFeats b 72 = true then (if (inB band 0 72 && decide ((((a.length : Int) - (b.length : Int)).natAbs : Int) ≤ band)) = true then 0 else 2) else 1
def elR (a b : List Feat) (band : Int) : Int × Int := if elCode a b band = 0 then (cv farS a b band (a.length - 1) (b.length - 1), 0) else (0, elCode a b band)
theorem elCode_0 {a b : List Feat} {band : Int} (h : elCode a b band = 0) : okFeats a 72 = true ∧ okFeats b 72 = true ∧ (0 ≤ band ∧ band ≤ 72) ∧ inBd band a.length b.length := by
  unfold elCode at h
  split at h
  · rename_i g
    split at h
    · rename_i g2
      simp only [Bool.and_eq_true, decide_eq_true_eq, inB] at g2
      refine ⟨g.1, g.2, g2.1, ?_⟩
      unfold inBd; omega
    · omega
  · omega
theorem elCode_any {a b : List Feat} (ha : okFeats a 72 = true) (hb : okFeats b 72 = true) : elCode a b 72 = 0 := by
  have h1 := okFeats_n ha
  have h2 := okFeats_n hb
  unfold elCode
  rw [if_pos ⟨ha, hb⟩, if_pos (by simp only [Bool.and_eq_true, decide_eq_true_eq, inB]; omega)]
theorem elR_any {a b : List Feat} (ha : okFeats a 72 = true) (hb : okFeats b 72 = true) : elR a b 72 = (cv farS a b 72 (a.length - 1) (b.length - 1), 0) := if_pos (elCode_any ha hb)
theorem fl_last {a b : List Feat} {band : Int} {out : List Int} (h : flOk a b band out (a.length * b.length)) (ha : 1 ≤ a.length) (hb : 1 ≤ b.length) : at_ out (out.length - 1) = cv farS a b band (a.length - 1) (b.length - 1) ∧ 1 ≤ out.length := by
  have e : a.length * b.length = (a.length - 1) * b.length + b.length := by
    obtain ⟨n, hn⟩ : ∃ n, a.length = n + 1 := ⟨a.length - 1, by omega⟩
    rw [hn, Nat.add_sub_cancel, Nat.succ_mul]
  have q := h.2 (a.length - 1) (b.length - 1) (by omega) (by omega) (by omega)
  have l := h.1
  rw [← q]
  refine ⟨?_, by omega⟩
  congr 1; omega

-- spec.l09Code
theorem l09Code_ok (a : List Feat) (b : List Feat) (band : Int) : Con Try.prog 42 [slFeat false a, slFeat false b, I band] true (I (elCode a b band)) := by
  refine fn_ok (fn := Try.f42) (nt := 28) Try.func42 rfl rfl rfl rfl (by simp [taggedL, tagged, tagFeat]) fun B hB => ?_
  refine aw_lens (x := slFeat false a) 0 rfl (fun len_a => ?_)
  simp [LenOK, LenL, cFeat, fFeat, slFeat] at len_a
  refine aw_lens (x := slFeat false b) 1 rfl (fun len_b => ?_)
  simp [LenOK, LenL, cFeat, fFeat, slFeat] at len_b
  refine aw_seq ?_
  refine aw_reg [] [0, 1, 2] [] [slFeat false a, slFeat false b, I band] [] [] (by kernel_rfl) hB trivial ?_
  refine ae_then ?_
  refine aw_seq ?_
  refine aw_seq ?_
  rcases Bool.eq_false_or_eq_true (okFeats a 72) with h1 | h1
  ·have hn1 := okFeats_n h1
   rcases Bool.eq_false_or_eq_true (okFeats b 72) with h2 | h2
   ·have hn1 := okFeats_n h2
    refine aw_reg [(1, .call [(true, slFeat false a)] true (Bv true)), (5, .call [(true, slFeat false b)] true (Bv true))] [0, 1, 2, 14] [] [slFeat false a, slFeat false b, I band, Bv false] [] [Con Try.prog 26 [slFeat false a] true (Bv true) ∧ ((slFeat false a : AV) = slFeat false a) ∧ True, Con Try.prog 26 [slFeat false b] true (Bv true) ∧ ((slFeat false b : AV) = slFeat false b) ∧ True] (by kernel_rfl) hB ⟨⟨(con_bool h1 (l09Ok_ok a)), rfl, trivial⟩, ⟨(con_bool h2 (l09Ok_ok b)), rfl, trivial⟩, trivial⟩ ?_
    refine ae_then ?_
    refine aw_false rfl ?_
    refine aw_skip ?_
    refine ae_then ?_
    refine aw_seq ?_
    refine aw_seq ?_
    rcases Bool.eq_false_or_eq_true (inB band 0 72) with h3 | h3
    ·by_cases h4 : band < (((a.length : Int) - (b.length : Int)).natAbs : Int)
     ·refine aw_reg [(1, .call [(true, I band), (true, I 0), (true, I 72)] true (Bv true)), (9, .call [(true, I ((a.length : Int) - (b.length : Int)))] true (I (((a.length : Int) - (b.length : Int)).natAbs : Int))), (11, .dec true)] [27] [] [Bv true] [] [Con Try.prog 27 [I band, I 0, I 72] true (Bv true) ∧ ((I band : AV) = I band) ∧ ((I 0 : AV) = I 0) ∧ ((I 72 : AV) = I 72) ∧ True, inR .i64 ((a.length : Int) - (b.length : Int)), Con Try.prog 49 [I ((a.length : Int) - (b.length : Int))] true (I (((a.length : Int) - (b.length : Int)).natAbs : Int)) ∧ ((I ((a.length : Int) - (b.length : Int)) : AV) = I ((a.length : Int) - (b.length : Int))) ∧ True, band < (((a.length : Int) - (b.length : Int)).natAbs : Int)] (by kernel_rfl) hB ⟨⟨(con_bool h3 (l00In_ok band 0 72)), rfl, rfl, rfl, trivial⟩, (inR_i64 (by omega) (by omega)), ⟨(l09Size_ok ((a.length : Int) - (b.length : Int)) (by omega)), rfl, trivial⟩, h4, trivial⟩ ?_
      refine ae_then ?_
      refine aw_true rfl ?_
      refine aw_seq ?_
      refine aw_reg [] [6] [] [I 2] [] [] (by kernel_rfl) hB trivial ?_
      refine ae_then ?_
      refine aw_ret ?_
      refine ae_ret_then ?_
      refine ae_ret hB (I 2) (by kernel_rfl) (.inl (by refine congrArg I ?_; unfold elCode; first | (simp [*]; done) | (simp [inB, *] at *; simp [*]; done) | (simp [inB, *] at *; omega))) rfl (fun _ => trivial)
     ·refine aw_reg [(1, .call [(true, I band), (true, I 0), (true, I 72)] true (Bv true)), (9, .call [(true, I ((a.length : Int) - (b.length : Int)))] true (I (((a.length : Int) - (b.length : Int)).natAbs : Int))), (11, .dec false)] [27] [] [Bv false] [] [Con Try.prog 27 [I band, I 0, I 72] true (Bv true) ∧ ((I band : AV) = I band) ∧ ((I 0 : AV) = I 0) ∧ ((I 72 : AV) = I 72) ∧ True, inR .i64 ((a.length : Int) - (b.length : Int)), Con Try.prog 49 [I ((a.length : Int) - (b.length : Int))] true (I (((a.length : Int) - (b.length : Int)).natAbs : Int)) ∧ ((I ((a.length : Int) - (b.length : Int)) : AV) = I ((a.length : Int) - (b.length : Int))) ∧ True, ¬ (band < (((a.length : Int) - (b.length : Int)).natAbs : Int))] (by kernel_rfl) hB ⟨⟨(con_bool h3 (l00In_ok band 0 72)), rfl, rfl, rfl, trivial⟩, (inR_i64 (by omega) (by omega)), ⟨(l09Size_ok ((a.length : Int) - (b.length : Int)) (by omega)), rfl, trivial⟩, h4, trivial⟩ ?_
      refine ae_then ?_
      refine aw_false rfl ?_
      refine aw_skip ?_
      refine ae_then ?_
      refine aw_seq ?_
      refine aw_reg [] [6] [] [I 0] [] [] (by kernel_rfl) hB trivial ?_
      refine ae_then ?_
      refine aw_ret ?_
      refine ae_ret hB (I 0) (by kernel_rfl) (.inl (by refine congrArg I ?_; unfold elCode; first | (simp [*]; done) | (simp [inB, *] at *; simp [*]; done) | (simp [inB, *] at *; omega))) rfl (fun _ => trivial)
    ·refine aw_reg [(1, .call [(true, I band), (true, I 0), (true, I 72)] true (Bv false))] [27] [] [Bv true] [] [Con Try.prog 27 [I band, I 0, I 72] true (Bv false) ∧ ((I band : AV) = I band) ∧ ((I 0 : AV) = I 0) ∧ ((I 72 : AV) = I 72) ∧ True] (by kernel_rfl) hB ⟨⟨(con_bool h3 (l00In_ok band 0 72)), rfl, rfl, rfl, trivial⟩, trivial⟩ ?_
     refine ae_then ?_
     refine aw_true rfl ?_
     refine aw_seq ?_
     refine aw_reg [] [6] [] [I 2] [] [] (by kernel_rfl) hB trivial ?_
     refine ae_then ?_
     refine aw_ret ?_
     refine ae_ret_then ?_
     refine ae_ret hB (I 2) (by kernel_rfl) (.inl (by refine congrArg I ?_; unfold elCode; first | (simp [*]; done) | (simp [inB, *] at *; simp [*]; done) | (simp [inB, *] at *; omega))) rfl (fun _ => trivial)
   ·refine aw_reg [(1, .call [(true, slFeat false a)] true (Bv true)), (5, .call [(true, slFeat false b)] true (Bv false))] [0, 1, 2, 14] [] [slFeat false a, slFeat false b, I band, Bv true] [] [Con Try.prog 26 [slFeat false a] true (Bv true) ∧ ((slFeat false a : AV) = slFeat false a) ∧ True, Con Try.prog 26 [slFeat false b] true (Bv false) ∧ ((slFeat false b : AV) = slFeat false b) ∧ True] (by kernel_rfl) hB ⟨⟨(con_bool h1 (l09Ok_ok a)), rfl, trivial⟩, ⟨(con_bool h2 (l09Ok_ok b)), rfl, trivial⟩, trivial⟩ ?_
    refine ae_then ?_
    refine aw_true rfl ?_
    refine aw_seq ?_
    refine aw_reg [] [6] [] [I 1] [] [] (by kernel_rfl) hB trivial ?_
    refine ae_then ?_
    refine aw_ret ?_
    refine ae_ret_then ?_
    refine ae_ret hB (I 1) (by kernel_rfl) (.inl (by refine congrArg I ?_; unfold elCode; first | (simp [*]; done) | (simp [inB, *] at *; simp [*]; done) | (simp [inB, *] at *; omega))) rfl (fun _ => trivial)
  ·refine aw_reg [(1, .call [(true, slFeat false a)] true (Bv false))] [0, 1, 2, 14] [] [slFeat false a, slFeat false b, I band, Bv true] [] [Con Try.prog 26 [slFeat false a] true (Bv false) ∧ ((slFeat false a : AV) = slFeat false a) ∧ True] (by kernel_rfl) hB ⟨⟨(con_bool h1 (l09Ok_ok a)), rfl, trivial⟩, trivial⟩ ?_
   refine ae_then ?_
   refine aw_true rfl ?_
   refine aw_seq ?_
   refine aw_reg [] [6] [] [I 1] [] [] (by kernel_rfl) hB trivial ?_
   refine ae_then ?_
   refine aw_ret ?_
   refine ae_ret_then ?_
   refine ae_ret hB (I 1) (by kernel_rfl) (.inl (by refine congrArg I ?_; unfold elCode; first | (simp [*]; done) | (simp [inB, *] at *; simp [*]; done) | (simp [inB, *] at *; omega))) rfl (fun _ => trivial)


-- spec.l09Least
theorem l09Least_ok (a : List Feat) (b : List Feat) (band : Int) (hab : okAB a b) (hbd : 0 ≤ band ∧ band ≤ 1000) (h1 : 1 ≤ a.length ∧ 1 ≤ b.length) : ∃ (v : Int), (v = cv farS a b band (a.length - 1) (b.length - 1)) ∧ Con Try.prog 43 [slFeat false a, slFeat false b, I band] true (I v) := by
  have hh : ∃ r : Int, ((r = cv farS a b band (a.length - 1) (b.length - 1)) ∧ (True)) ∧ CallOK Try.prog 43 [slFeat false a, slFeat false b, I band] (lookO []) true (I r) (lookO []) := by
    refine fn_okX (Φ := fun r : Int => (r = cv farS a b band (a.length - 1) (b.length - 1)) ∧ (True)) [] (fun r => []) (fn := Try.f43) (nt := 18) Try.func43 rfl rfl (args := [slFeat false a, slFeat false b, I band]) rfl (allcons (.inl ⟨rfl, tagFeat false _⟩) (allcons (.inl ⟨rfl, tagFeat false _⟩) (allcons (.inl ⟨rfl, trivial⟩) allnil))) (res := fun r => I r) ?_
    refine x_seq ?_
    refine x_reg [] [0, 1, 2] [] [slFeat false a, slFeat false b, I band] [] [] (by kernel_rfl) trivial ?_
    refine xe_then ?_
    refine x_seq ?_
    obtain ⟨out_1, hx1_0, hc1⟩ := l09Table_ok a b band hab (by omega)
    have hls := fl_last hx1_0 h1.1 h1.2
    have hlq := Nat.mul_le_mul hab.2.2.1 hab.2.2.2
    rw [← hx1_0.1] at hlq
    refine x_reg [(3, .call [(true, slFeat false a), (true, slFeat false b), (true, I band)] true (slI true out_1))] [7] [] [slI true out_1] [] [Con Try.prog 67 [slFeat false a, slFeat false b, I band] true (slI true out_1) ∧ ((slFeat false a : AV) = slFeat false a) ∧ ((slFeat false b : AV) = slFeat false b) ∧ ((I band : AV) = I band) ∧ True] (by kernel_rfl) ⟨⟨hc1, rfl, rfl, rfl, trivial⟩, trivial⟩ ?_
    refine xe_then ?_
    refine x_seq ?_
    refine x_reg [] [6] [] [I (at_ out_1 (((out_1.length : Int) - 1).toNat))] [] [inR .i64 ((out_1.length : Int) - 1), (0 : Int) ≤ ((out_1.length : Int) - 1) ∧ ((out_1.length : Int) - 1) < (out_1.length : Int)] (by kernel_rfl) ⟨(inR_i64 (by omega) (by omega)), ⟨(by omega), (by omega)⟩, trivial⟩ ?_
    refine xe_then ?_
    refine x_ret ?_
    refine xe_end (at_ out_1 (((out_1.length : Int) - 1).toNat)) (show ((at_ out_1 (((out_1.length : Int) - 1).toNat)) = cv farS a b band (a.length - 1) (b.length - 1)) ∧ (True) from ⟨(by (rw [← hls.1]; congr 1; omega)), trivial⟩) (trivial) (I (at_ out_1 (((out_1.length : Int) - 1).toNat))) (by kernel_rfl) (.inl rfl) (fun _ => rfl) (fun _ => trivial)
  obtain ⟨v, ⟨hh0, _⟩, hc⟩ := hh
  exact ⟨v, hh0, hc⟩


-- spec.Elastic
theorem specElastic_ok (a : List Feat) (b : List Feat) (band : Int) : ∃ (v : Int) (c : Int), (v = (elR a b band).1) ∧ (c = (elR a b band).2) ∧ Con Try.prog 22 [slFeat false a, slFeat false b, I band] true (.tup [I v, I c]) := by
  have hh : ∃ r : Int × Int, ((r.1 = (elR a b band).1) ∧ (r.2 = (elR a b band).2) ∧ (True)) ∧ CallOK Try.prog 22 [slFeat false a, slFeat false b, I band] (lookO []) true (.tup [I r.1, I r.2]) (lookO []) := by
    refine fn_okX (Φ := fun r : Int × Int => (r.1 = (elR a b band).1) ∧ (r.2 = (elR a b band).2) ∧ (True)) [] (fun r => []) (fn := Try.f22) (nt := 20) Try.func22 rfl rfl (args := [slFeat false a, slFeat false b, I band]) rfl (allcons (.inl ⟨rfl, tagFeat false _⟩) (allcons (.inl ⟨rfl, tagFeat false _⟩) (allcons (.inl ⟨rfl, trivial⟩) allnil))) (res := fun r => .tup [I r.1, I r.2]) ?_
    refine x_seq ?_
    refine x_reg [] [0, 1, 2] [] [slFeat false a, slFeat false b, I band] [] [] (by kernel_rfl) trivial ?_
    refine xe_then ?_
    refine x_seq ?_
    refine x_reg [(3, .call [(true, slFeat false a), (true, slFeat false b), (true, I band)] true (I (elCode a b band)))] [0, 1, 2, 8] [] [slFeat false a, slFeat false b, I band, I (elCode a b band)] [] [Con Try.prog 42 [slFeat false a, slFeat false b, I band] true (I (elCode a b band)) ∧ ((slFeat false a : AV) = slFeat false a) ∧ ((slFeat false b : AV) = slFeat false b) ∧ ((I band : AV) = I band) ∧ True] (by kernel_rfl) ⟨⟨(l09Code_ok a b band), rfl, rfl, rfl, trivial⟩, trivial⟩ ?_
    refine xe_then ?_
    refine x_seq ?_
    refine x_seq ?_
    by_cases h1 : (elCode a b band) = 0
    ·have hcd := elCode_0 (a := a) (b := b) (band := band) (by omega)
     have hna := okFeats_n hcd.1
     have hnb := okFeats_n hcd.2.1
     refine x_reg [(1, .dec false)] [0, 1, 2, 8, 14] [] [slFeat false a, slFeat false b, I band, I (elCode a b band), Bv false] [] [¬ ((elCode a b band) ≠ 0)] (by kernel_rfl) ⟨(fun hq => hq h1), trivial⟩ ?_
     refine xe_then ?_
     refine x_false rfl ?_
     refine x_skip ?_
     refine xe_then ?_
     refine x_seq ?_
     obtain ⟨v_1, hx1_0, hc1⟩ := l09Least_ok a b band (okAB_of hcd.1 hcd.2.1) (by omega) (by omega)
     refine x_reg [(3, .call [(true, slFeat false a), (true, slFeat false b), (true, I band)] true (I v_1))] [6, 7] [] [I v_1, I 0] [] [Con Try.prog 43 [slFeat false a, slFeat false b, I band] true (I v_1) ∧ ((slFeat false a : AV) = slFeat false a) ∧ ((slFeat false b : AV) = slFeat false b) ∧ ((I band : AV) = I band) ∧ True] (by kernel_rfl) ⟨⟨hc1, rfl, rfl, rfl, trivial⟩, trivial⟩ ?_
     refine xe_then ?_
     refine x_ret ?_
     refine xe_end (v_1, 0) (show (v_1 = (elR a b band).1) ∧ (0 = (elR a b band).2) ∧ (True) from ⟨(by (unfold elR; simp [*])), (by (unfold elR; simp [*])), trivial⟩) (trivial) (.tup [I v_1, I 0]) (by kernel_rfl) (.inl rfl) (fun _ => rfl) (fun _ => (by simp [tagged, taggedL]))
    ·refine x_reg [(1, .dec true)] [0, 1, 2, 8, 14] [] [slFeat false a, slFeat false b, I band, I (elCode a b band), Bv true] [] [(elCode a b band) ≠ 0] (by kernel_rfl) ⟨h1, trivial⟩ ?_
     refine xe_then ?_
     refine x_true rfl ?_
     refine x_seq ?_
     refine x_reg [] [6, 7] [] [I 0, I (elCode a b band)] [] [] (by kernel_rfl) trivial ?_
     refine xe_then ?_
     refine x_ret ?_
     refine xe_ret_then ?_
     refine xe_end (0, (elCode a b band)) (show (0 = (elR a b band).1) ∧ ((elCode a b band) = (elR a b band).2) ∧ (True) from ⟨(by (unfold elR; simp [*])), (by (unfold elR; simp [*])), trivial⟩) (trivial) (.tup [I 0, I (elCode a b band)]) (by kernel_rfl) (.inl rfl) (fun _ => rfl) (fun _ => (by simp [tagged, taggedL]))
  obtain ⟨⟨v, c⟩, ⟨hh0, hh1, _⟩, hc⟩ := hh
  exact ⟨v, c, hh0, hh1, hc⟩


/-- The greatest of 0 and f 0, .. f (n - 1). -/
def maxN : Nat → (Nat → Int) → Int
  | 0, _ => 0
  | n + 1, f => max (maxN n f) (f n)
theorem maxN_succ {n : Int} (h : 0 ≤ n) (f : Nat → Int) : maxN (n + 1).toNat f = max (maxN n.toNat f) (f n.toNat) := by
  have : (n + 1).toNat = n.toNat + 1 := by omega
  rw [this]; rfl

def shiftF (t : Trained) (j : Nat) : Int := max (((at_ t.Feats j).X - (at_ t.Base j).X).natAbs : Int) (((at_ t.Feats j).Y - (at_ t.Base j).Y).natAbs : Int)
/-- How far a trained template has been moved. -/
def shiftR (t : Trained) : Int × Int := if okTrained' t then (maxN t.Base.length (shiftF t), 0) else (0, 1)

-- impl.ShiftOf
theorem implShiftOf_ok (t : Trained) (ok : okTrained t) : Con Try.prog 23 [agTrained t] true (.tup [I ((shiftR t).1), I ((shiftR t).2)]) := by
  refine fn_ok (fn := Try.f23) (nt := 42) Try.func23 rfl rfl rfl rfl (by simp [taggedL, tagged, tagFeat]) fun B hB => ?_
  refine aw_lens (x := agTrained t) 0 rfl (fun len_t => ?_)
  simp [LenOK, LenL, cFeat, fFeat, slFeat] at len_t
  refine aw_seq ?_
  refine aw_reg [(0, .new 1)] [1] [1] [.ref 1 0] [some (bxTrained t)] [] (by kernel_rfl) hB trivial ?_
  refine ae_then ?_
  refine aw_seq ?_
  refine aw_seq ?_
  rcases Bool.eq_false_or_eq_true (okTrained' t) with h1 | h1
  ·have hok := okTr_iff.1 h1
   refine aw_reg [(1, .call [(true, agTrained t)] true (Bv true))] [1, 9] [1] [.ref 1 0, Bv false] [some (bxTrained t)] [Con Try.prog 31 [agTrained t] true (Bv true) ∧ ((agTrained t : AV) = agTrained t) ∧ True] (by kernel_rfl) hB ⟨⟨(con_bool h1 (ValidTrained_ok t ok)), rfl, trivial⟩, trivial⟩ ?_
   refine ae_then ?_
   refine aw_false rfl ?_
   refine aw_skip ?_
   refine ae_then ?_
   refine aw_seq ?_
   refine aw_reg [] [1, 4] [1] [.ref 1 0, I 0] [some (bxTrained t)] [] (by kernel_rfl) hB trivial ?_
   refine ae_then ?_
   refine aw_seq ?_
   refine aw_seq ?_
   refine aw_reg [] [1, 4, 11, 12, 13] [1] [.ref 1 0, I 0, slFeat false t.Feats, I (t.Feats.length : Int), I 0] [some (bxTrained t)] [] (by kernel_rfl) hB trivial ?_
   refine ae_then ?_
   refine aw_block ?_
   refine aw_loop (fun gn gσ => ∃ (shift : Int) (t13 : Int), gn = ((t.Feats.length : Int) - t13).toNat ∧ (0 ≤ t13 ∧ t13 ≤ (t.Feats.length : Int)) ∧ (shift = maxN t13.toNat (shiftF t)) ∧ (0 ≤ shift ∧ shift ≤ 255) ∧ gσ = mkS [(1, .ref 1 0), (4, I shift), (11, slFeat false t.Feats), (12, I (t.Feats.length : Int)), (13, I t13)] [(1, bxTrained t)]) (((t.Feats.length : Int) - 0).toNat) ⟨0, 0, rfl, (by omega), (by rfl), (by omega), rfl⟩ (fun gn gσ hI => ?_)
   obtain ⟨shift, t13, rfl, hi0, hm0, hm1, rfl⟩ := hI
   refine aw_seq ?_
   by_cases h2 : t13 < (t.Feats.length : Int)
   ·have hi : t13.toNat < t.Base.length := by omega
    have hi2 : t13.toNat < t.Feats.length := by omega
    have hf1 := okF_iff.1 (okFeats_at hok.2.1 hi)
    have hf2 := okF_iff.1 (okFeats_at hok.2.2.1 hi2)
    refine aw_reg [(0, .dec true)] [1, 4, 11, 12, 13, 14] [1] [.ref 1 0, I shift, slFeat false t.Feats, I (t.Feats.length : Int), I t13, Bv true] [some (bxTrained t)] [t13 < (t.Feats.length : Int)] (by kernel_rfl) hB ⟨h2, trivial⟩ ?_
    refine ae_then ?_
    refine aw_seq ?_
    refine aw_true rfl ?_
    refine aw_skip ?_
    refine ae_then ?_
    refine aw_seq ?_
    refine aw_block ?_
    refine aw_seq ?_
    refine aw_reg [(3, .new 6)] [1, 4, 5, 6, 11, 12, 13] [1, 6] [.ref 1 0, I shift, I t13, .ref 6 0, slFeat false t.Feats, I (t.Feats.length : Int), I t13] [some (bxTrained t), some (bxFeat (at_ t.Feats t13.toNat))] [(0 : Int) ≤ t13 ∧ t13 < (t.Feats.length : Int)] (by kernel_rfl) hB ⟨⟨(by omega), (by omega)⟩, trivial⟩ ?_
    refine ae_then ?_
    refine aw_reg [(10, .call [(true, I (((at_ t.Feats t13.toNat).X) - ((at_ t.Base t13.toNat).X)))] true (I ((((at_ t.Feats t13.toNat).X) - ((at_ t.Base t13.toNat).X)).natAbs : Int))), (20, .call [(true, I (((at_ t.Feats t13.toNat).Y) - ((at_ t.Base t13.toNat).Y)))] true (I ((((at_ t.Feats t13.toNat).Y) - ((at_ t.Base t13.toNat).Y)).natAbs : Int)))] [1, 4, 11, 12, 13] [1] [.ref 1 0, I (max (max shift ((((at_ t.Feats t13.toNat).X) - ((at_ t.Base t13.toNat).X)).natAbs : Int)) ((((at_ t.Feats t13.toNat).Y) - ((at_ t.Base t13.toNat).Y)).natAbs : Int)), slFeat false t.Feats, I (t.Feats.length : Int), I t13] [some (bxTrained t)] [(0 : Int) ≤ t13 ∧ t13 < (t.Base.length : Int), inR .i64 (((at_ t.Feats t13.toNat).X) - ((at_ t.Base t13.toNat).X)), Con Try.prog 44 [I (((at_ t.Feats t13.toNat).X) - ((at_ t.Base t13.toNat).X))] true (I ((((at_ t.Feats t13.toNat).X) - ((at_ t.Base t13.toNat).X)).natAbs : Int)) ∧ ((I (((at_ t.Feats t13.toNat).X) - ((at_ t.Base t13.toNat).X)) : AV) = I (((at_ t.Feats t13.toNat).X) - ((at_ t.Base t13.toNat).X))) ∧ True, (0 : Int) ≤ t13 ∧ t13 < (t.Base.length : Int), inR .i64 (((at_ t.Feats t13.toNat).Y) - ((at_ t.Base t13.toNat).Y)), Con Try.prog 44 [I (((at_ t.Feats t13.toNat).Y) - ((at_ t.Base t13.toNat).Y))] true (I ((((at_ t.Feats t13.toNat).Y) - ((at_ t.Base t13.toNat).Y)).natAbs : Int)) ∧ ((I (((at_ t.Feats t13.toNat).Y) - ((at_ t.Base t13.toNat).Y)) : AV) = I (((at_ t.Feats t13.toNat).Y) - ((at_ t.Base t13.toNat).Y))) ∧ True] (by kernel_rfl) hB ⟨⟨(by omega), (by omega)⟩, (inR_i64 (by omega) (by omega)), ⟨(abs_ok (((at_ t.Feats t13.toNat).X) - ((at_ t.Base t13.toNat).X)) (by omega)), rfl, trivial⟩, ⟨(by omega), (by omega)⟩, (inR_i64 (by omega) (by omega)), ⟨(abs_ok (((at_ t.Feats t13.toNat).Y) - ((at_ t.Base t13.toNat).Y)) (by omega)), rfl, trivial⟩, trivial⟩ ?_
    refine ae_block 1 ?_
    refine ae_then ?_
    refine aw_reg [] [1, 4, 11, 12, 13] [1] [.ref 1 0, I (max (max shift ((((at_ t.Feats t13.toNat).X) - ((at_ t.Base t13.toNat).X)).natAbs : Int)) ((((at_ t.Feats t13.toNat).Y) - ((at_ t.Base t13.toNat).Y)).natAbs : Int)), slFeat false t.Feats, I (t.Feats.length : Int), I (t13 + 1)] [some (bxTrained t)] [inR .i64 (t13 + 1)] (by kernel_rfl) hB ⟨(inR_i64 (by omega) (by omega)), trivial⟩ ?_
    exact ae_again _ (by omega) ⟨(max (max shift ((((at_ t.Feats t13.toNat).X) - ((at_ t.Base t13.toNat).X)).natAbs : Int)) ((((at_ t.Feats t13.toNat).Y) - ((at_ t.Base t13.toNat).Y)).natAbs : Int)), (t13 + 1), rfl, (by omega), (by rw [maxN_succ hi0.1, ← hm0]; unfold shiftF; omega), (by omega), rfl⟩
   ·have hie : t13.toNat = t.Base.length := by omega
    rw [hie] at hm0
    refine aw_reg [(0, .dec false)] [1, 4, 11, 12, 13, 14] [1] [.ref 1 0, I shift, slFeat false t.Feats, I (t.Feats.length : Int), I t13, Bv false] [some (bxTrained t)] [¬ (t13 < (t.Feats.length : Int))] (by kernel_rfl) hB ⟨h2, trivial⟩ ?_
    refine ae_then ?_
    refine aw_seq ?_
    refine aw_false rfl ?_
    refine aw_exit ?_
    refine ae_exit_then ?_
    refine ae_exit_then ?_
    refine ae_exit_same ?_
    refine ae_then ?_
    refine aw_seq ?_
    refine aw_reg [] [2, 3] [] [I shift, I 0] [] [] (by kernel_rfl) hB trivial ?_
    refine ae_then ?_
    refine aw_ret ?_
    refine ae_ret hB (.tup [I shift, I 0]) (by kernel_rfl) (.inl (by simp [shiftR, *])) rfl (fun _ => (by simp [tagged, taggedL]))
  ·refine aw_reg [(1, .call [(true, agTrained t)] true (Bv false))] [1, 9] [1] [.ref 1 0, Bv true] [some (bxTrained t)] [Con Try.prog 31 [agTrained t] true (Bv false) ∧ ((agTrained t : AV) = agTrained t) ∧ True] (by kernel_rfl) hB ⟨⟨(con_bool h1 (ValidTrained_ok t ok)), rfl, trivial⟩, trivial⟩ ?_
   refine ae_then ?_
   refine aw_true rfl ?_
   refine aw_seq ?_
   refine aw_reg [] [2, 3] [] [I 0, I 1] [] [] (by kernel_rfl) hB trivial ?_
   refine ae_then ?_
   refine aw_ret ?_
   refine ae_ret_then ?_
   refine ae_ret hB (.tup [I 0, I 1]) (by kernel_rfl) (.inl (by simp [shiftR, *])) rfl (fun _ => (by simp [tagged, taggedL]))


-- impl.startTrained
theorem startTrained_ok (t : Template) (hl : t.Feats.length ≤ 72) : ∃ (bs : List Feat) (fs : List Feat), (bs = t.Feats) ∧ (fs = t.Feats) ∧ CallOK Try.prog 45 [agTemplate t] (lookO []) false (.agg [Sv t.Label, .arr 8311, .arr 8312, I 0]) (lookO [(8311, .arr 3 bs.length (fFeat bs)), (8312, .arr 3 fs.length (fFeat fs))]) := by
  have hh : ∃ r : (List Feat) × (List Feat), ((r.1 = t.Feats) ∧ (r.2 = t.Feats) ∧ (True)) ∧ CallOK Try.prog 45 [agTemplate t] (lookO []) false (.agg [Sv t.Label, .arr 8311, .arr 8312, I 0]) (lookO [(8311, .arr 3 r.1.length (fFeat r.1)), (8312, .arr 3 r.2.length (fFeat r.2))]) := by
    refine fn_okX (Φ := fun r : (List Feat) × (List Feat) => (r.1 = t.Feats) ∧ (r.2 = t.Feats) ∧ (True)) [] (fun r => [(8311, .arr 3 r.1.length (fFeat r.1)), (8312, .arr 3 r.2.length (fFeat r.2))]) (fn := Try.f45) (nt := 12) Try.func45 rfl rfl (args := [agTemplate t]) rfl (allcons (.inl ⟨rfl, by simp [tagged, taggedL, tagFeat]⟩) allnil) (res := fun r => .agg [Sv t.Label, .arr 8311, .arr 8312, I 0]) ?_
    refine x_seq ?_
    refine x_reg [(0, .new 1), (1, .new 2)] [1, 2] [1, 2] [.ref 1 0, .ref 2 0] [some (bxTemplate t), some (.box [Sv (⟨#[]⟩ : ByteArray), nilA, nilA, I 0])] [] (by kernel_rfl) trivial ?_
    refine xe_then ?_
    refine x_seq ?_
    obtain ⟨out_1, hx1_0, hc1⟩ := cloneF0_ok t.Feats (by omega)
    obtain ⟨out_2, hx2_0, hc2⟩ := cloneF1_ok t.Feats (by omega)
    refine x_reg [(4, .lend [] [(8311, .arr 3 out_1.length (fFeat out_1))] [(true, slFeat false t.Feats)] false (.arr 8311)), (7, .lend [] [(8312, .arr 3 out_2.length (fFeat out_2))] [(true, slFeat false t.Feats)] false (.arr 8312))] [2] [2, 8311, 8312] [.ref 2 0] [some (.box [Sv t.Label, .arr 8311, .arr 8312, I 0]), some (.arr 3 out_1.length (fFeat out_1)), some (.arr 3 out_2.length (fFeat out_2))] [CallOK Try.prog 59 [slFeat false t.Feats] (lookO []) false (.arr 8311) (lookO [(8311, .arr 3 out_1.length (fFeat out_1))]) ∧ ((slFeat false t.Feats : AV) = slFeat false t.Feats) ∧ True, CallOK Try.prog 59 [slFeat false t.Feats] (lookO []) false (.arr 8312) (lookO [(8312, .arr 3 out_2.length (fFeat out_2))]) ∧ ((slFeat false t.Feats : AV) = slFeat false t.Feats) ∧ True] (by kernel_rfl) ⟨⟨hc1, rfl, trivial⟩, ⟨hc2, rfl, trivial⟩, trivial⟩ ?_
    refine xe_then ?_
    refine x_ret ?_
    refine xe_end (out_1, out_2) (show (out_1 = t.Feats) ∧ (out_2 = t.Feats) ∧ (True) from ⟨(by assumption), (by assumption), trivial⟩) (⟨.inl rfl, .inl rfl, trivial⟩) (.agg [Sv t.Label, .arr 8311, .arr 8312, I 0]) (by kernel_rfl) (.inl rfl) (fun h => by cases h) (fun h => by cases h)
  obtain ⟨⟨bs, fs⟩, ⟨hh0, hh1, _⟩, hc⟩ := hh
  exact ⟨bs, fs, hh0, hh1, hc⟩


-- impl.ResetTrained
theorem implResetTrained_ok (t : Trained) (ok : okTrained t) : ∃ (bs : List Feat) (fs : List Feat), (bs = (rsR t).1.Base) ∧ (fs = (rsR t).1.Feats) ∧ CallOK Try.prog 24 [agTrained t] (lookO []) false (.tup [.agg [Sv ((rsR t).1.Label), .arr 8311, .arr 8312, I ((rsR t).1.Count)], I ((rsR t).2)]) (lookO [(8311, .arr 3 bs.length (fFeat bs)), (8312, .arr 3 fs.length (fFeat fs))]) := by
  have hh : ∃ r : (List Feat) × (List Feat), ((r.1 = (rsR t).1.Base) ∧ (r.2 = (rsR t).1.Feats) ∧ (True)) ∧ CallOK Try.prog 24 [agTrained t] (lookO []) false (.tup [.agg [Sv ((rsR t).1.Label), .arr 8311, .arr 8312, I ((rsR t).1.Count)], I ((rsR t).2)]) (lookO [(8311, .arr 3 r.1.length (fFeat r.1)), (8312, .arr 3 r.2.length (fFeat r.2))]) := by
    refine fn_okX (Φ := fun r : (List Feat) × (List Feat) => (r.1 = (rsR t).1.Base) ∧ (r.2 = (rsR t).1.Feats) ∧ (True)) [] (fun r => [(8311, .arr 3 r.1.length (fFeat r.1)), (8312, .arr 3 r.2.length (fFeat r.2))]) (fn := Try.f24) (nt := 14) Try.func24 rfl rfl (args := [agTrained t]) rfl (allcons (.inl ⟨rfl, by simp [tagged, taggedL, tagFeat]⟩) allnil) (res := fun r => .tup [.agg [Sv ((rsR t).1.Label), .arr 8311, .arr 8312, I ((rsR t).1.Count)], I ((rsR t).2)]) ?_
    refine x_seq ?_
    refine x_reg [(0, .new 1), (1, .new 2)] [1, 2] [1, 2] [.ref 1 0, .ref 2 0] [some (bxTrained t), some (.box [Sv (⟨#[]⟩ : ByteArray), nilA, nilA, I 0])] [] (by kernel_rfl) trivial ?_
    refine xe_then ?_
    refine x_seq ?_
    refine x_seq ?_
    rcases Bool.eq_false_or_eq_true (okTrained' t) with h1 | h1
    ·have hst := rsR_yes h1
     have hlen := okTr_len h1
     refine x_reg [(1, .call [(true, agTrained t)] true (Bv true))] [1, 2, 6] [1, 2] [.ref 1 0, .ref 2 0, Bv false] [some (bxTrained t), some (.box [Sv (⟨#[]⟩ : ByteArray), nilA, nilA, I 0])] [Con Try.prog 31 [agTrained t] true (Bv true) ∧ ((agTrained t : AV) = agTrained t) ∧ True] (by kernel_rfl) ⟨⟨(con_bool h1 (ValidTrained_ok t ok)), rfl, trivial⟩, trivial⟩ ?_
     refine xe_then ?_
     refine x_false rfl ?_
     refine x_skip ?_
     refine xe_then ?_
     refine x_seq ?_
     obtain ⟨bs_1, fs_1, hx1_0, hx1_1, hc1⟩ := startTrained_ok (Template.mk t.Label t.Base) hlen
     refine x_reg [(5, .lend [] [(8311, .arr 3 bs_1.length (fFeat bs_1)), (8312, .arr 3 fs_1.length (fFeat fs_1))] [(true, .agg [Sv t.Label, slFeat false t.Base])] false (.agg [Sv ((Template.mk t.Label t.Base).Label), .arr 8311, .arr 8312, I 0]))] [2, 3] [2, 8311, 8312] [.ref 2 0, I 0] [some (.box [Sv ((Template.mk t.Label t.Base).Label), .arr 8311, .arr 8312, I 0]), some (.arr 3 bs_1.length (fFeat bs_1)), some (.arr 3 fs_1.length (fFeat fs_1))] [CallOK Try.prog 45 [.agg [Sv t.Label, slFeat false t.Base]] (lookO []) false (.agg [Sv ((Template.mk t.Label t.Base).Label), .arr 8311, .arr 8312, I 0]) (lookO [(8311, .arr 3 bs_1.length (fFeat bs_1)), (8312, .arr 3 fs_1.length (fFeat fs_1))]) ∧ ((.agg [Sv t.Label, slFeat false t.Base] : AV) = .agg [Sv t.Label, slFeat false t.Base]) ∧ True] (by kernel_rfl) ⟨⟨hc1, rfl, trivial⟩, trivial⟩ ?_
     refine xe_then ?_
     refine x_ret ?_
     refine xe_weak [] (T := [(2, .ref 2 0), (3, I 0)]) (O := [(2, .box [Sv ((rsR t).1.Label), .arr 8311, .arr 8312, I ((rsR t).1.Count)]), (8311, .arr 3 bs_1.length (fFeat bs_1)), (8312, .arr 3 fs_1.length (fFeat fs_1))]) rfl (⟨.inl rfl, .inl rfl, trivial⟩) (⟨.inr ⟨(by first | rfl | (simp [valOf]; done) | (simp [valOf]; first | omega | (rw [hst]; exact rfl) | (simp [hst]))), ⟨rfl, ⟨rfl, ⟨(by first | rfl | (simp [valOf]; done) | (simp [valOf]; first | omega | (rw [hst]; exact rfl) | (simp [hst]))), rfl⟩⟩⟩⟩, .inl rfl, .inl rfl, trivial⟩) ?_
     refine xe_end (bs_1, fs_1) (show (bs_1 = (rsR t).1.Base) ∧ (fs_1 = (rsR t).1.Feats) ∧ (True) from ⟨(by first | (rw [hst]; done) | (rw [hst]; assumption)), (by first | (rw [hst]; done) | (rw [hst]; assumption)), trivial⟩) (⟨.inl rfl, .inl rfl, trivial⟩) (.tup [.agg [Sv ((rsR t).1.Label), .arr 8311, .arr 8312, I ((rsR t).1.Count)], I 0]) (by kernel_rfl) (.inr ⟨⟨rfl, ⟨rfl, ⟨rfl, ⟨rfl, rfl⟩⟩⟩⟩, ⟨(by first | rfl | (simp [valOf]; done) | (simp [valOf]; first | omega | (rw [hst]; exact rfl) | (simp [hst]))), rfl⟩⟩) (fun h => by cases h) (fun h => by cases h)
    ·have hst := rsR_no h1
     refine x_reg [(1, .call [(true, agTrained t)] true (Bv false))] [1, 2, 6] [1, 2] [.ref 1 0, .ref 2 0, Bv true] [some (bxTrained t), some (.box [Sv (⟨#[]⟩ : ByteArray), nilA, nilA, I 0])] [Con Try.prog 31 [agTrained t] true (Bv false) ∧ ((agTrained t : AV) = agTrained t) ∧ True] (by kernel_rfl) ⟨⟨(con_bool h1 (ValidTrained_ok t ok)), rfl, trivial⟩, trivial⟩ ?_
     refine xe_then ?_
     refine x_true rfl ?_
     refine x_seq ?_
     refine x_reg [] [2, 3] [2] [.ref 2 0, I 1] [some (.box [Sv (⟨#[]⟩ : ByteArray), nilA, nilA, I 0])] [] (by kernel_rfl) trivial ?_
     refine xe_then ?_
     refine x_ret ?_
     refine xe_ret_then ?_
     refine xe_nilC 2 1 8311 3 (fun _ => []) rfl (by kernel_rfl) ?_
     refine xe_nilC 2 2 8312 3 (fun _ => []) rfl (by kernel_rfl) ?_
     refine xe_weak [] (T := [(2, .ref 2 0), (3, I 1)]) (O := [(2, .box [Sv ((rsR t).1.Label), .arr 8311, .arr 8312, I ((rsR t).1.Count)]), (8311, .arr 3 (([] : List Feat).length) (fFeat ([] : List Feat))), (8312, .arr 3 (([] : List Feat).length) (fFeat ([] : List Feat)))]) rfl (⟨.inl rfl, .inl rfl, trivial⟩) (⟨.inr ⟨(by first | rfl | (simp [valOf]; done) | (simp [valOf]; first | omega | (rw [hst]; exact rfl) | (simp [hst]))), ⟨rfl, ⟨rfl, ⟨(by first | rfl | (simp [valOf]; done) | (simp [valOf]; first | omega | (rw [hst]; exact rfl) | (simp [hst]))), rfl⟩⟩⟩⟩, .inr ⟨rfl, (by first | rfl | (simp; done) | (simp; omega) | omega), fun i_ hi_ => absurd hi_ (Nat.not_lt_zero _)⟩, .inr ⟨rfl, (by first | rfl | (simp; done) | (simp; omega) | omega), fun i_ hi_ => absurd hi_ (Nat.not_lt_zero _)⟩, trivial⟩) ?_
     refine xe_end (([] : List Feat), ([] : List Feat)) (show (([] : List Feat) = (rsR t).1.Base) ∧ (([] : List Feat) = (rsR t).1.Feats) ∧ (True) from ⟨(by first | (rw [hst]; done) | (rw [hst]; assumption)), (by first | (rw [hst]; done) | (rw [hst]; assumption)), trivial⟩) (⟨.inl rfl, .inl rfl, trivial⟩) (.tup [.agg [Sv ((rsR t).1.Label), .arr 8311, .arr 8312, I ((rsR t).1.Count)], I 1]) (by kernel_rfl) (.inr ⟨⟨rfl, ⟨rfl, ⟨rfl, ⟨rfl, rfl⟩⟩⟩⟩, ⟨(by first | rfl | (simp [valOf]; done) | (simp [valOf]; first | omega | (rw [hst]; exact rfl) | (simp [hst]))), rfl⟩⟩) (fun h => by cases h) (fun h => by cases h)
  obtain ⟨⟨bs, fs⟩, ⟨hh0, hh1, _⟩, hc⟩ := hh
  exact ⟨bs, fs, hh0, hh1, hc⟩


theorem okTr_size {t : Trained} (h : okTrained' t = true) : okTrained t := by
  have q := (okTr_iff.1 h).1
  simp only [okLabel, Bool.and_eq_true, decide_eq_true_eq] at q
  unfold okTrained; omega
theorem maxN_bd {n : Nat} {f : Nat → Int} {m : Int} (hm : 0 ≤ m) (h : ∀ j, j < n → f j ≤ m) : 0 ≤ maxN n f ∧ maxN n f ≤ m := by
  induction n with
  | zero => exact ⟨Int.le_refl _, hm⟩
  | succ n ih =>
    have q := ih fun j hj => h j (by omega)
    have q2 := h n (by omega)
    simp only [maxN]; omega
theorem shift_bd {t : Trained} (h : okTrained' t = true) : (0 ≤ (shiftR t).1 ∧ (shiftR t).1 ≤ 40) ∧ (shiftR t).2 = 0 := by
  unfold shiftR
  rw [if_pos h]
  refine ⟨maxN_bd (by decide) fun j hj => ?_, rfl⟩
  have := near_at h (i := j) (by have := (okTr_iff.1 h).2.2.2.1.1; omega)
  unfold shiftF; omega
theorem reset_shift {t : Trained} (h : okTrained' t = true) : okTrained' (rsR t).1 = true ∧ shiftR (rsR t).1 = (0, 0) := by
  have q := okTr_iff.1 h
  rw [rsR_yes h]
  have h2 : okTrained' (Trained.mk t.Label t.Base t.Base 0) = true := start_ok q.1 q.2.1
  refine ⟨h2, ?_⟩
  unfold shiftR
  rw [if_pos h2]
  have := maxN_bd (n := t.Base.length) (f := shiftF (Trained.mk t.Label t.Base t.Base 0)) (m := 0) (by decide) fun j hj => by unfold shiftF; dsimp only; omega
  refine Prod.ext ?_ rfl
  show maxN t.Base.length (shiftF (Trained.mk t.Label t.Base t.Base 0)) = 0
  omega

-- laws.FnAdapt
theorem fnAdapt_con (code : List Int) (more : List Int) (ok_code : ∀ y ∈ code, inR .u8 y) (ok_more : ∀ y ∈ more, inR .u8 y) : Con Try.prog 4 [slU8 false code, slU8 false more] true (Bv true) := by
  refine fn_ok (fn := Try.f4) (nt := 130) Try.func4 rfl rfl rfl rfl (by simp [taggedL, tagged, tagU8]) fun B hB => ?_
  refine aw_lens (x := slU8 false code) 0 rfl (fun len_code => ?_)
  simp [LenOK, LenL, cU8, fU8, slU8] at len_code
  refine aw_lens (x := slU8 false more) 1 rfl (fun len_more => ?_)
  simp [LenOK, LenL, cU8, fU8, slU8] at len_more
  refine aw_seq ?_
  refine aw_reg [] [0, 1] [] [slU8 false code, slU8 false more] [] [] (by kernel_rfl) hB trivial ?_
  refine ae_then ?_
  refine aw_seq ?_
  refine aw_seq ?_
  rcases Bool.eq_false_or_eq_true (decide (3000 < (code.length : Int) ∨ 3000 < (more.length : Int))) with h1 | h1
  ·refine aw_reg [(2, .call [(true, slU8 false code), (true, slU8 false more)] true (Bv true))] [0, 1, 22] [] [slU8 false code, slU8 false more, Bv true] [] [Con Try.prog 16 [slU8 false code, slU8 false more] true (Bv true) ∧ ((slU8 false code : AV) = slU8 false code) ∧ ((slU8 false more : AV) = slU8 false more) ∧ True] (by kernel_rfl) hB ⟨⟨(con_bool h1 (a2Long_ok code more)), rfl, rfl, trivial⟩, trivial⟩ ?_
   refine ae_then ?_
   refine aw_true rfl ?_
   refine aw_seq ?_
   refine aw_reg [] [4] [] [Bv true] [] [] (by kernel_rfl) hB trivial ?_
   refine ae_then ?_
   refine aw_ret ?_
   refine ae_ret_then ?_
   refine ae_ret hB (Bv true) (by kernel_rfl) (.inl rfl) rfl (fun _ => trivial)
  ·have hc : (∀ j, j < code.length → 0 ≤ at_ code j ∧ at_ code j ≤ 255) ∧ code.length ≤ 4611686018427387904 := ⟨fun j hj => ok_code _ (at_mem hj), by first | omega | (simp at h1; omega)⟩
   have hmore : (∀ j, j < more.length → 0 ≤ at_ more j ∧ at_ more j ≤ 255) ∧ more.length ≤ 4611686018427387904 := ⟨fun j hj => ok_more _ (at_mem hj), by first | omega | (simp at h1; omega)⟩
   refine aw_reg [(2, .call [(true, slU8 false code), (true, slU8 false more)] true (Bv false))] [0, 1, 22] [] [slU8 false code, slU8 false more, Bv false] [] [Con Try.prog 16 [slU8 false code, slU8 false more] true (Bv false) ∧ ((slU8 false code : AV) = slU8 false code) ∧ ((slU8 false more : AV) = slU8 false more) ∧ True] (by kernel_rfl) hB ⟨⟨(con_bool h1 (a2Long_ok code more)), rfl, rfl, trivial⟩, trivial⟩ ?_
   refine ae_then ?_
   refine aw_false rfl ?_
   refine aw_skip ?_
   refine ae_then ?_
   refine aw_seq ?_
   obtain ⟨v_1, hx1_0, hx1_1, hc1⟩ := A2Trained_ok code (by assumption)
   have okt := hx1_0
   have hct := hx1_1
   have hK0 := a2At_bd more 0 (n := 101) (by decide)
   have oks_ := okTr_size okt
   refine aw_reg [(1, .call [(true, slU8 false code)] true (agTrainedT v_1)), (2, .new 5)] [1, 5] [5] [slU8 false more, .ref 5 0] [some (bxTrainedT v_1)] [Con Try.prog 17 [slU8 false code] true (agTrainedT v_1) ∧ ((slU8 false code : AV) = slU8 false code) ∧ True] (by kernel_rfl) hB ⟨⟨hc1, rfl, trivial⟩, trivial⟩ ?_
   refine ae_then ?_
   refine aw_seq ?_
   obtain ⟨v_2, hx2_0, hx2_1, hc2⟩ := A2Feats_ok more (by assumption)
   have okf := hx2_0
   have hna := okFeats_n (okTr_iff.1 okt).2.2.1
   have hnf := okFeats_n okf
   refine aw_reg [(1, .call [(true, slU8 false more)] true (slFeat true v_2))] [1, 5, 6] [5] [slU8 false more, .ref 5 0, slFeat true v_2] [some (bxTrainedT v_1)] [Con Try.prog 18 [slU8 false more] true (slFeat true v_2) ∧ ((slU8 false more : AV) = slU8 false more) ∧ True] (by kernel_rfl) hB ⟨⟨hc2, rfl, trivial⟩, trivial⟩ ?_
   refine ae_then ?_
   refine aw_seq ?_
   refine aw_reg [(1, .call [(true, slU8 false more), (true, I 0), (true, I 101)] true (I (a2AtI more 0 101)))] [5, 6, 7] [5] [.ref 5 0, slFeat true v_2, I (a2AtI more 0 101)] [some (bxTrainedT v_1)] [Con Try.prog 19 [slU8 false more, I 0, I 101] true (I (a2AtI more 0 101)) ∧ ((slU8 false more : AV) = slU8 false more) ∧ ((I 0 : AV) = I 0) ∧ ((I 101 : AV) = I 101) ∧ True] (by kernel_rfl) hB ⟨⟨(a2At_ok more 0 101 hmore.1 (by omega)), rfl, rfl, rfl, trivial⟩, trivial⟩ ?_
   refine ae_then ?_
   refine aw_seq ?_
   obtain ⟨bs_3, fs_3, hx3_0, hx3_1, hc3⟩ := implAdaptTrained_ok v_1 v_2 72 (a2AtI more 0 101) oks_
   have hnm : inBd 72 v_1.Feats.length v_2.length := in_any hna hnf
   have hAR : adR v_1 v_2 72 (a2AtI more 0 101) = ((adpT v_1 v_2 72 (a2AtI more 0 101)), 0) := by unfold adR; rw [if_pos ⟨okt, okf⟩, if_pos ⟨inB_iff.2 (by omega), by simp only [Bool.and_eq_true, decide_eq_true_eq, inB]; omega⟩, if_neg (by omega)]
   have hbs : bs_3 = v_1.Base := by rw [hx3_0, hAR]; rfl
   have hfs : fs_3 = (adpT v_1 v_2 72 (a2AtI more 0 101)).Feats := by rw [hx3_1, hAR]
   have hX : (Trained.mk (adR v_1 v_2 72 (a2AtI more 0 101)).1.Label bs_3 fs_3 (adR v_1 v_2 72 (a2AtI more 0 101)).1.Count) = (adpT v_1 v_2 72 (a2AtI more 0 101)) := by rw [hx3_0, hx3_1, hAR]
   have hok : okTrained' (adpT v_1 v_2 72 (a2AtI more 0 101)) = true := adpT_ok okt okf hnm (by omega) (by omega)
   have hokX := okTr_size hok
   have hless := adp_less okt okf hnm (show 0 ≤ (a2AtI more 0 101) ∧ (a2AtI more 0 101) ≤ 100 by omega) (by omega)
   refine aw_reg [(3, .lend [] [(8311, .arr 3 bs_3.length (fFeat bs_3)), (8312, .arr 3 fs_3.length (fFeat fs_3))] [(false, agTrained v_1), (false, slFeat false v_2), (true, I 72), (true, I (a2AtI more 0 101))] false (.tup [.agg [Sv ((adR v_1 v_2 72 (a2AtI more 0 101)).1.Label), .arr 8311, .arr 8312, I ((adR v_1 v_2 72 (a2AtI more 0 101)).1.Count)], I ((adR v_1 v_2 72 (a2AtI more 0 101)).2)])), (7, .new 8)] [5, 6, 8, 9] [5, 8, 8311, 8312] [.ref 5 0, slFeat true v_2, .ref 8 0, I ((adR v_1 v_2 72 (a2AtI more 0 101)).2)] [some (bxTrainedT v_1), some (.box [Sv ((adR v_1 v_2 72 (a2AtI more 0 101)).1.Label), .arr 8311, .arr 8312, I ((adR v_1 v_2 72 (a2AtI more 0 101)).1.Count)]), some (.arr 3 bs_3.length (fFeat bs_3)), some (.arr 3 fs_3.length (fFeat fs_3))] [CallOK Try.prog 10 [agTrained v_1, slFeat false v_2, I 72, I (a2AtI more 0 101)] (lookO []) false (.tup [.agg [Sv ((adR v_1 v_2 72 (a2AtI more 0 101)).1.Label), .arr 8311, .arr 8312, I ((adR v_1 v_2 72 (a2AtI more 0 101)).1.Count)], I ((adR v_1 v_2 72 (a2AtI more 0 101)).2)]) (lookO [(8311, .arr 3 bs_3.length (fFeat bs_3)), (8312, .arr 3 fs_3.length (fFeat fs_3))]) ∧ ((valOf (Sv v_1.Label) = valOf (Sv v_1.Label)) ∧ ((false = true → true = true) ∧ 3 = 3 ∧ v_1.Base.length = v_1.Base.length ∧ ∀ i, i < v_1.Base.length → (fFeat v_1.Base) i = (fFeat v_1.Base) i ∨ (AV.idsL ((fFeat v_1.Base) i) = [] ∧ leL (fun _ => none) false ((fFeat v_1.Base) i) ((fFeat v_1.Base) i))) ∧ ((false = true → true = true) ∧ 3 = 3 ∧ v_1.Feats.length = v_1.Feats.length ∧ ∀ i, i < v_1.Feats.length → (fFeat v_1.Feats) i = (fFeat v_1.Feats) i ∨ (AV.idsL ((fFeat v_1.Feats) i) = [] ∧ leL (fun _ => none) false ((fFeat v_1.Feats) i) ((fFeat v_1.Feats) i))) ∧ (valOf (I v_1.Count) = valOf (I v_1.Count)) ∧ ([] : List AV) = []) ∧ ((false = true → true = true) ∧ 3 = 3 ∧ v_2.length = v_2.length ∧ ∀ i, i < v_2.length → (fFeat v_2) i = (fFeat v_2) i ∨ (AV.idsL ((fFeat v_2) i) = [] ∧ leL (fun _ => none) false ((fFeat v_2) i) ((fFeat v_2) i))) ∧ ((I 72 : AV) = I 72) ∧ ((I (a2AtI more 0 101) : AV) = I (a2AtI more 0 101)) ∧ True] (by kernel_rfl) hB ⟨⟨hc3, ⟨rfl, ⟨⟨(fun h => by cases h), rfl, rfl, fun i _ => .inl rfl⟩, ⟨⟨(fun h => by cases h), rfl, rfl, fun i _ => .inl rfl⟩, ⟨rfl, rfl⟩⟩⟩⟩, ⟨(fun h => by cases h), rfl, rfl, fun i _ => .inl rfl⟩, rfl, rfl, trivial⟩, trivial⟩ ?_
   refine ae_then ?_
   refine aw_seq ?_
   refine aw_seq ?_
   refine aw_reg [(1, .dec false), (4, .call [(false, .agg [Sv ((adR v_1 v_2 72 (a2AtI more 0 101)).1.Label), slFeat false bs_3, slFeat false fs_3, I ((adR v_1 v_2 72 (a2AtI more 0 101)).1.Count)])] true (Bv true)), (13, .dec false), (20, .call [(false, slFeat false bs_3), (false, slFeat false v_1.Base)] true (Bv true))] [5, 6, 8, 58] [5, 8, 8311, 8312] [.ref 5 0, slFeat true v_2, .ref 8 0, Bv false] [some (bxTrainedT v_1), some (.box [Sv ((adR v_1 v_2 72 (a2AtI more 0 101)).1.Label), .arr 8311, .arr 8312, I ((adR v_1 v_2 72 (a2AtI more 0 101)).1.Count)]), some (.arr 3 bs_3.length (fFeat bs_3)), some (.arr 3 fs_3.length (fFeat fs_3))] [¬ (((adR v_1 v_2 72 (a2AtI more 0 101)).2) ≠ 0), Con Try.prog 20 [.agg [Sv ((adR v_1 v_2 72 (a2AtI more 0 101)).1.Label), slFeat false bs_3, slFeat false fs_3, I ((adR v_1 v_2 72 (a2AtI more 0 101)).1.Count)]] true (Bv true) ∧ ((valOf (Sv ((adR v_1 v_2 72 (a2AtI more 0 101)).1.Label)) = valOf (Sv ((adR v_1 v_2 72 (a2AtI more 0 101)).1.Label))) ∧ ((false = true → true = true) ∧ 3 = 3 ∧ bs_3.length = bs_3.length ∧ ∀ i, i < bs_3.length → (fFeat bs_3) i = (fFeat bs_3) i ∨ (AV.idsL ((fFeat bs_3) i) = [] ∧ leL (fun _ => none) false ((fFeat bs_3) i) ((fFeat bs_3) i))) ∧ ((false = true → true = true) ∧ 3 = 3 ∧ fs_3.length = fs_3.length ∧ ∀ i, i < fs_3.length → (fFeat fs_3) i = (fFeat fs_3) i ∨ (AV.idsL ((fFeat fs_3) i) = [] ∧ leL (fun _ => none) false ((fFeat fs_3) i) ((fFeat fs_3) i))) ∧ (valOf (I ((adR v_1 v_2 72 (a2AtI more 0 101)).1.Count)) = valOf (I ((adR v_1 v_2 72 (a2AtI more 0 101)).1.Count))) ∧ ([] : List AV) = []) ∧ True, inR .i64 (v_1.Count + 1), ¬ (((adR v_1 v_2 72 (a2AtI more 0 101)).1.Count) ≠ (v_1.Count + 1)), Con Try.prog 21 [slFeat false bs_3, slFeat false v_1.Base] true (Bv true) ∧ ((false = true → true = true) ∧ 3 = 3 ∧ bs_3.length = bs_3.length ∧ ∀ i, i < bs_3.length → (fFeat bs_3) i = (fFeat bs_3) i ∨ (AV.idsL ((fFeat bs_3) i) = [] ∧ leL (fun _ => none) false ((fFeat bs_3) i) ((fFeat bs_3) i))) ∧ ((false = true → true = true) ∧ 3 = 3 ∧ v_1.Base.length = v_1.Base.length ∧ ∀ i, i < v_1.Base.length → (fFeat v_1.Base) i = (fFeat v_1.Base) i ∨ (AV.idsL ((fFeat v_1.Base) i) = [] ∧ leL (fun _ => none) false ((fFeat v_1.Base) i) ((fFeat v_1.Base) i))) ∧ True] (by kernel_rfl) hB ⟨(fun hq => hq (by rw [hAR])), ⟨(con_bool (by rw [hX]; exact hok) (specValidTrained_ok (Trained.mk ((adR v_1 v_2 72 (a2AtI more 0 101)).1.Label) bs_3 fs_3 ((adR v_1 v_2 72 (a2AtI more 0 101)).1.Count)) (by rw [hX]; exact hokX))), ⟨rfl, ⟨⟨(fun h => by cases h), rfl, rfl, fun i _ => .inl rfl⟩, ⟨⟨(fun h => by cases h), rfl, rfl, fun i _ => .inl rfl⟩, ⟨rfl, rfl⟩⟩⟩⟩, trivial⟩, (inR_i64 (by omega) (by omega)), (fun hq => hq (by rw [hAR]; rfl)), ⟨(con_bool (by rw [hbs]; exact sameL_refl _) (specSameFeats_ok bs_3 v_1.Base)), ⟨(fun h => by cases h), rfl, rfl, fun i _ => .inl rfl⟩, ⟨(fun h => by cases h), rfl, rfl, fun i _ => .inl rfl⟩, trivial⟩, trivial⟩ ?_
   refine ae_then ?_
   refine aw_false rfl ?_
   refine aw_skip ?_
   refine ae_then ?_
   refine aw_seq ?_
   obtain ⟨v_4, c_4, hx4_0, hx4_1, hc4⟩ := specElastic_ok v_1.Feats v_2 72
   have he0 : v_4 = cv farS v_1.Feats v_2 72 (v_1.Feats.length - 1) (v_2.length - 1) ∧ c_4 = 0 := by rw [hx4_0, hx4_1, elR_any (okTr_iff.1 okt).2.2.1 okf]; exact ⟨rfl, rfl⟩
   refine aw_reg [(3, .call [(false, slFeat false v_1.Feats), (false, slFeat false v_2), (true, I 72)] true (.tup [I v_4, I c_4]))] [5, 6, 8, 10, 11] [5, 8, 8311, 8312] [.ref 5 0, slFeat true v_2, .ref 8 0, I v_4, I c_4] [some (bxTrainedT v_1), some (.box [Sv ((adR v_1 v_2 72 (a2AtI more 0 101)).1.Label), .arr 8311, .arr 8312, I ((adR v_1 v_2 72 (a2AtI more 0 101)).1.Count)]), some (.arr 3 bs_3.length (fFeat bs_3)), some (.arr 3 fs_3.length (fFeat fs_3))] [Con Try.prog 22 [slFeat false v_1.Feats, slFeat false v_2, I 72] true (.tup [I v_4, I c_4]) ∧ ((false = true → true = true) ∧ 3 = 3 ∧ v_1.Feats.length = v_1.Feats.length ∧ ∀ i, i < v_1.Feats.length → (fFeat v_1.Feats) i = (fFeat v_1.Feats) i ∨ (AV.idsL ((fFeat v_1.Feats) i) = [] ∧ leL (fun _ => none) false ((fFeat v_1.Feats) i) ((fFeat v_1.Feats) i))) ∧ ((false = true → true = true) ∧ 3 = 3 ∧ v_2.length = v_2.length ∧ ∀ i, i < v_2.length → (fFeat v_2) i = (fFeat v_2) i ∨ (AV.idsL ((fFeat v_2) i) = [] ∧ leL (fun _ => none) false ((fFeat v_2) i) ((fFeat v_2) i))) ∧ ((I 72 : AV) = I 72) ∧ True] (by kernel_rfl) hB ⟨⟨hc4, ⟨(fun h => by cases h), rfl, rfl, fun i _ => .inl rfl⟩, ⟨(fun h => by cases h), rfl, rfl, fun i _ => .inl rfl⟩, rfl, trivial⟩, trivial⟩ ?_
   refine ae_then ?_
   refine aw_seq ?_
   obtain ⟨v_5, c_5, hx5_0, hx5_1, hc5⟩ := specElastic_ok fs_3 v_2 72
   have he1 : v_5 = cv farS (adpT v_1 v_2 72 (a2AtI more 0 101)).Feats v_2 72 ((adpT v_1 v_2 72 (a2AtI more 0 101)).Feats.length - 1) (v_2.length - 1) ∧ c_5 = 0 := by rw [hx5_0, hx5_1, hfs, elR_any (okTr_iff.1 hok).2.2.1 okf]; exact ⟨rfl, rfl⟩
   refine aw_reg [(3, .call [(false, slFeat false fs_3), (false, slFeat false v_2), (true, I 72)] true (.tup [I v_5, I c_5]))] [5, 8, 10, 11, 12, 13] [5, 8, 8311, 8312] [.ref 5 0, .ref 8 0, I v_4, I c_4, I v_5, I c_5] [some (bxTrainedT v_1), some (.box [Sv ((adR v_1 v_2 72 (a2AtI more 0 101)).1.Label), .arr 8311, .arr 8312, I ((adR v_1 v_2 72 (a2AtI more 0 101)).1.Count)]), some (.arr 3 bs_3.length (fFeat bs_3)), some (.arr 3 fs_3.length (fFeat fs_3))] [Con Try.prog 22 [slFeat false fs_3, slFeat false v_2, I 72] true (.tup [I v_5, I c_5]) ∧ ((false = true → true = true) ∧ 3 = 3 ∧ fs_3.length = fs_3.length ∧ ∀ i, i < fs_3.length → (fFeat fs_3) i = (fFeat fs_3) i ∨ (AV.idsL ((fFeat fs_3) i) = [] ∧ leL (fun _ => none) false ((fFeat fs_3) i) ((fFeat fs_3) i))) ∧ ((false = true → true = true) ∧ 3 = 3 ∧ v_2.length = v_2.length ∧ ∀ i, i < v_2.length → (fFeat v_2) i = (fFeat v_2) i ∨ (AV.idsL ((fFeat v_2) i) = [] ∧ leL (fun _ => none) false ((fFeat v_2) i) ((fFeat v_2) i))) ∧ ((I 72 : AV) = I 72) ∧ True] (by kernel_rfl) hB ⟨⟨hc5, ⟨(fun h => by cases h), rfl, rfl, fun i _ => .inl rfl⟩, ⟨(fun h => by cases h), rfl, rfl, fun i _ => .inl rfl⟩, rfl, trivial⟩, trivial⟩ ?_
   refine ae_then ?_
   refine aw_seq ?_
   refine aw_reg [(1, .call [(false, .agg [Sv ((adR v_1 v_2 72 (a2AtI more 0 101)).1.Label), slFeat false bs_3, slFeat false fs_3, I ((adR v_1 v_2 72 (a2AtI more 0 101)).1.Count)])] true (.tup [I ((shiftR (Trained.mk ((adR v_1 v_2 72 (a2AtI more 0 101)).1.Label) bs_3 fs_3 ((adR v_1 v_2 72 (a2AtI more 0 101)).1.Count))).1), I ((shiftR (Trained.mk ((adR v_1 v_2 72 (a2AtI more 0 101)).1.Label) bs_3 fs_3 ((adR v_1 v_2 72 (a2AtI more 0 101)).1.Count))).2)]))] [5, 8, 10, 11, 12, 13, 14, 15] [5, 8, 8311, 8312] [.ref 5 0, .ref 8 0, I v_4, I c_4, I v_5, I c_5, I ((shiftR (Trained.mk ((adR v_1 v_2 72 (a2AtI more 0 101)).1.Label) bs_3 fs_3 ((adR v_1 v_2 72 (a2AtI more 0 101)).1.Count))).1), I ((shiftR (Trained.mk ((adR v_1 v_2 72 (a2AtI more 0 101)).1.Label) bs_3 fs_3 ((adR v_1 v_2 72 (a2AtI more 0 101)).1.Count))).2)] [some (bxTrainedT v_1), some (.box [Sv ((adR v_1 v_2 72 (a2AtI more 0 101)).1.Label), .arr 8311, .arr 8312, I ((adR v_1 v_2 72 (a2AtI more 0 101)).1.Count)]), some (.arr 3 bs_3.length (fFeat bs_3)), some (.arr 3 fs_3.length (fFeat fs_3))] [Con Try.prog 23 [.agg [Sv ((adR v_1 v_2 72 (a2AtI more 0 101)).1.Label), slFeat false bs_3, slFeat false fs_3, I ((adR v_1 v_2 72 (a2AtI more 0 101)).1.Count)]] true (.tup [I ((shiftR (Trained.mk ((adR v_1 v_2 72 (a2AtI more 0 101)).1.Label) bs_3 fs_3 ((adR v_1 v_2 72 (a2AtI more 0 101)).1.Count))).1), I ((shiftR (Trained.mk ((adR v_1 v_2 72 (a2AtI more 0 101)).1.Label) bs_3 fs_3 ((adR v_1 v_2 72 (a2AtI more 0 101)).1.Count))).2)]) ∧ ((valOf (Sv ((adR v_1 v_2 72 (a2AtI more 0 101)).1.Label)) = valOf (Sv ((adR v_1 v_2 72 (a2AtI more 0 101)).1.Label))) ∧ ((false = true → true = true) ∧ 3 = 3 ∧ bs_3.length = bs_3.length ∧ ∀ i, i < bs_3.length → (fFeat bs_3) i = (fFeat bs_3) i ∨ (AV.idsL ((fFeat bs_3) i) = [] ∧ leL (fun _ => none) false ((fFeat bs_3) i) ((fFeat bs_3) i))) ∧ ((false = true → true = true) ∧ 3 = 3 ∧ fs_3.length = fs_3.length ∧ ∀ i, i < fs_3.length → (fFeat fs_3) i = (fFeat fs_3) i ∨ (AV.idsL ((fFeat fs_3) i) = [] ∧ leL (fun _ => none) false ((fFeat fs_3) i) ((fFeat fs_3) i))) ∧ (valOf (I ((adR v_1 v_2 72 (a2AtI more 0 101)).1.Count)) = valOf (I ((adR v_1 v_2 72 (a2AtI more 0 101)).1.Count))) ∧ ([] : List AV) = []) ∧ True] (by kernel_rfl) hB ⟨⟨(implShiftOf_ok (Trained.mk ((adR v_1 v_2 72 (a2AtI more 0 101)).1.Label) bs_3 fs_3 ((adR v_1 v_2 72 (a2AtI more 0 101)).1.Count)) (by rw [hX]; exact hokX)), ⟨rfl, ⟨⟨(fun h => by cases h), rfl, rfl, fun i _ => .inl rfl⟩, ⟨⟨(fun h => by cases h), rfl, rfl, fun i _ => .inl rfl⟩, ⟨rfl, rfl⟩⟩⟩⟩, trivial⟩, trivial⟩ ?_
   refine ae_then ?_
   refine aw_seq ?_
   refine aw_weak hB [(7901, 8311), (7902, 8312)] (T := [(5, .ref 5 0), (8, .ref 8 0), (10, I v_4), (11, I c_4), (12, I v_5), (13, I c_5), (14, I ((shiftR (Trained.mk ((adR v_1 v_2 72 (a2AtI more 0 101)).1.Label) bs_3 fs_3 ((adR v_1 v_2 72 (a2AtI more 0 101)).1.Count))).1)), (15, I ((shiftR (Trained.mk ((adR v_1 v_2 72 (a2AtI more 0 101)).1.Label) bs_3 fs_3 ((adR v_1 v_2 72 (a2AtI more 0 101)).1.Count))).2))]) (O := [(5, bxTrainedT v_1), (8, .box [Sv ((adR v_1 v_2 72 (a2AtI more 0 101)).1.Label), .arr 7901, .arr 7902, I ((adR v_1 v_2 72 (a2AtI more 0 101)).1.Count)]), (7901, .arr 3 bs_3.length (fFeat bs_3)), (7902, .arr 3 fs_3.length (fFeat fs_3))]) rfl (⟨.inl rfl, .inl rfl, .inl rfl, .inl rfl, .inl rfl, .inl rfl, .inl rfl, .inl rfl, trivial⟩) (⟨.inl rfl, .inl rfl, .inl rfl, .inl rfl, trivial⟩) ?_
   obtain ⟨bs_6, fs_6, hx6_0, hx6_1, hc6⟩ := implResetTrained_ok (Trained.mk ((adR v_1 v_2 72 (a2AtI more 0 101)).1.Label) bs_3 fs_3 ((adR v_1 v_2 72 (a2AtI more 0 101)).1.Count)) (by rw [hX]; exact hokX)
   have hX2 : (Trained.mk (rsR (Trained.mk (adR v_1 v_2 72 (a2AtI more 0 101)).1.Label bs_3 fs_3 (adR v_1 v_2 72 (a2AtI more 0 101)).1.Count)).1.Label bs_6 fs_6 (rsR (Trained.mk (adR v_1 v_2 72 (a2AtI more 0 101)).1.Label bs_3 fs_3 (adR v_1 v_2 72 (a2AtI more 0 101)).1.Count)).1.Count) = (rsR (adpT v_1 v_2 72 (a2AtI more 0 101))).1 := by rw [hx6_0, hx6_1, hX]
   have hfs2 : fs_6 = v_1.Base := by rw [hx6_1, hX, rsR_yes hok]; rfl
   have hrs := reset_shift hok
   have hokX2 := okTr_size hrs.1
   refine aw_reg [(1, .lendT [] [(8311, .arr 3 bs_6.length (fFeat bs_6)), (8312, .arr 3 fs_6.length (fFeat fs_6))] [(false, .agg [Sv ((adR v_1 v_2 72 (a2AtI more 0 101)).1.Label), slFeat false bs_3, slFeat false fs_3, I ((adR v_1 v_2 72 (a2AtI more 0 101)).1.Count)])] false (.tup [.agg [Sv ((rsR (Trained.mk ((adR v_1 v_2 72 (a2AtI more 0 101)).1.Label) bs_3 fs_3 ((adR v_1 v_2 72 (a2AtI more 0 101)).1.Count))).1.Label), .arr 8311, .arr 8312, I ((rsR (Trained.mk ((adR v_1 v_2 72 (a2AtI more 0 101)).1.Label) bs_3 fs_3 ((adR v_1 v_2 72 (a2AtI more 0 101)).1.Count))).1.Count)], I ((rsR (Trained.mk ((adR v_1 v_2 72 (a2AtI more 0 101)).1.Label) bs_3 fs_3 ((adR v_1 v_2 72 (a2AtI more 0 101)).1.Count))).2)])), (5, .new 16)] [5, 10, 11, 12, 13, 14, 15, 16, 17] [5, 16, 8311, 8312] [.ref 5 0, I v_4, I c_4, I v_5, I c_5, I ((shiftR (Trained.mk ((adR v_1 v_2 72 (a2AtI more 0 101)).1.Label) bs_3 fs_3 ((adR v_1 v_2 72 (a2AtI more 0 101)).1.Count))).1), I ((shiftR (Trained.mk ((adR v_1 v_2 72 (a2AtI more 0 101)).1.Label) bs_3 fs_3 ((adR v_1 v_2 72 (a2AtI more 0 101)).1.Count))).2), .ref 16 0, I ((rsR (Trained.mk ((adR v_1 v_2 72 (a2AtI more 0 101)).1.Label) bs_3 fs_3 ((adR v_1 v_2 72 (a2AtI more 0 101)).1.Count))).2)] [some (bxTrainedT v_1), some (.box [Sv ((rsR (Trained.mk ((adR v_1 v_2 72 (a2AtI more 0 101)).1.Label) bs_3 fs_3 ((adR v_1 v_2 72 (a2AtI more 0 101)).1.Count))).1.Label), .arr 8311, .arr 8312, I ((rsR (Trained.mk ((adR v_1 v_2 72 (a2AtI more 0 101)).1.Label) bs_3 fs_3 ((adR v_1 v_2 72 (a2AtI more 0 101)).1.Count))).1.Count)]), some (.arr 3 bs_6.length (fFeat bs_6)), some (.arr 3 fs_6.length (fFeat fs_6))] [CallOK Try.prog 24 [.agg [Sv ((adR v_1 v_2 72 (a2AtI more 0 101)).1.Label), slFeat false bs_3, slFeat false fs_3, I ((adR v_1 v_2 72 (a2AtI more 0 101)).1.Count)]] (lookO []) false (.tup [.agg [Sv ((rsR (Trained.mk ((adR v_1 v_2 72 (a2AtI more 0 101)).1.Label) bs_3 fs_3 ((adR v_1 v_2 72 (a2AtI more 0 101)).1.Count))).1.Label), .arr 8311, .arr 8312, I ((rsR (Trained.mk ((adR v_1 v_2 72 (a2AtI more 0 101)).1.Label) bs_3 fs_3 ((adR v_1 v_2 72 (a2AtI more 0 101)).1.Count))).1.Count)], I ((rsR (Trained.mk ((adR v_1 v_2 72 (a2AtI more 0 101)).1.Label) bs_3 fs_3 ((adR v_1 v_2 72 (a2AtI more 0 101)).1.Count))).2)]) (lookO [(8311, .arr 3 bs_6.length (fFeat bs_6)), (8312, .arr 3 fs_6.length (fFeat fs_6))]) ∧ allTag [(8311, .arr 3 bs_6.length (fFeat bs_6)), (8312, .arr 3 fs_6.length (fFeat fs_6))] ∧ tagged true (.tup [.agg [Sv ((rsR (Trained.mk ((adR v_1 v_2 72 (a2AtI more 0 101)).1.Label) bs_3 fs_3 ((adR v_1 v_2 72 (a2AtI more 0 101)).1.Count))).1.Label), .arr 8311, .arr 8312, I ((rsR (Trained.mk ((adR v_1 v_2 72 (a2AtI more 0 101)).1.Label) bs_3 fs_3 ((adR v_1 v_2 72 (a2AtI more 0 101)).1.Count))).1.Count)], I ((rsR (Trained.mk ((adR v_1 v_2 72 (a2AtI more 0 101)).1.Label) bs_3 fs_3 ((adR v_1 v_2 72 (a2AtI more 0 101)).1.Count))).2)]) ∧ ((valOf (Sv ((adR v_1 v_2 72 (a2AtI more 0 101)).1.Label)) = valOf (Sv ((adR v_1 v_2 72 (a2AtI more 0 101)).1.Label))) ∧ ((false = true → true = true) ∧ 3 = 3 ∧ bs_3.length = bs_3.length ∧ ∀ i, i < bs_3.length → (fFeat bs_3) i = (fFeat bs_3) i ∨ (AV.idsL ((fFeat bs_3) i) = [] ∧ leL (fun _ => none) false ((fFeat bs_3) i) ((fFeat bs_3) i))) ∧ ((false = true → true = true) ∧ 3 = 3 ∧ fs_3.length = fs_3.length ∧ ∀ i, i < fs_3.length → (fFeat fs_3) i = (fFeat fs_3) i ∨ (AV.idsL ((fFeat fs_3) i) = [] ∧ leL (fun _ => none) false ((fFeat fs_3) i) ((fFeat fs_3) i))) ∧ (valOf (I ((adR v_1 v_2 72 (a2AtI more 0 101)).1.Count)) = valOf (I ((adR v_1 v_2 72 (a2AtI more 0 101)).1.Count))) ∧ ([] : List AV) = []) ∧ True] (by kernel_rfl) hB ⟨⟨hc6, ⟨(fun _ _ => tagcFeat true _), (fun _ _ => tagcFeat true _), trivial⟩, (by simp [tagged, taggedL]), ⟨rfl, ⟨⟨(fun h => by cases h), rfl, rfl, fun i _ => .inl rfl⟩, ⟨⟨(fun h => by cases h), rfl, rfl, fun i _ => .inl rfl⟩, ⟨rfl, rfl⟩⟩⟩⟩, trivial⟩, trivial⟩ ?_
   refine ae_then ?_
   refine aw_seq ?_
   refine aw_reg [(1, .call [(false, .agg [Sv ((rsR (Trained.mk ((adR v_1 v_2 72 (a2AtI more 0 101)).1.Label) bs_3 fs_3 ((adR v_1 v_2 72 (a2AtI more 0 101)).1.Count))).1.Label), slFeat false bs_6, slFeat false fs_6, I ((rsR (Trained.mk ((adR v_1 v_2 72 (a2AtI more 0 101)).1.Label) bs_3 fs_3 ((adR v_1 v_2 72 (a2AtI more 0 101)).1.Count))).1.Count)])] true (.tup [I ((shiftR (Trained.mk ((rsR (Trained.mk ((adR v_1 v_2 72 (a2AtI more 0 101)).1.Label) bs_3 fs_3 ((adR v_1 v_2 72 (a2AtI more 0 101)).1.Count))).1.Label) bs_6 fs_6 ((rsR (Trained.mk ((adR v_1 v_2 72 (a2AtI more 0 101)).1.Label) bs_3 fs_3 ((adR v_1 v_2 72 (a2AtI more 0 101)).1.Count))).1.Count))).1), I ((shiftR (Trained.mk ((rsR (Trained.mk ((adR v_1 v_2 72 (a2AtI more 0 101)).1.Label) bs_3 fs_3 ((adR v_1 v_2 72 (a2AtI more 0 101)).1.Count))).1.Label) bs_6 fs_6 ((rsR (Trained.mk ((adR v_1 v_2 72 (a2AtI more 0 101)).1.Label) bs_3 fs_3 ((adR v_1 v_2 72 (a2AtI more 0 101)).1.Count))).1.Count))).2)]))] [5, 10, 11, 12, 13, 14, 15, 16, 17, 18, 19] [5, 16, 8311, 8312] [.ref 5 0, I v_4, I c_4, I v_5, I c_5, I ((shiftR (Trained.mk ((adR v_1 v_2 72 (a2AtI more 0 101)).1.Label) bs_3 fs_3 ((adR v_1 v_2 72 (a2AtI more 0 101)).1.Count))).1), I ((shiftR (Trained.mk ((adR v_1 v_2 72 (a2AtI more 0 101)).1.Label) bs_3 fs_3 ((adR v_1 v_2 72 (a2AtI more 0 101)).1.Count))).2), .ref 16 0, I ((rsR (Trained.mk ((adR v_1 v_2 72 (a2AtI more 0 101)).1.Label) bs_3 fs_3 ((adR v_1 v_2 72 (a2AtI more 0 101)).1.Count))).2), I ((shiftR (Trained.mk ((rsR (Trained.mk ((adR v_1 v_2 72 (a2AtI more 0 101)).1.Label) bs_3 fs_3 ((adR v_1 v_2 72 (a2AtI more 0 101)).1.Count))).1.Label) bs_6 fs_6 ((rsR (Trained.mk ((adR v_1 v_2 72 (a2AtI more 0 101)).1.Label) bs_3 fs_3 ((adR v_1 v_2 72 (a2AtI more 0 101)).1.Count))).1.Count))).1), I ((shiftR (Trained.mk ((rsR (Trained.mk ((adR v_1 v_2 72 (a2AtI more 0 101)).1.Label) bs_3 fs_3 ((adR v_1 v_2 72 (a2AtI more 0 101)).1.Count))).1.Label) bs_6 fs_6 ((rsR (Trained.mk ((adR v_1 v_2 72 (a2AtI more 0 101)).1.Label) bs_3 fs_3 ((adR v_1 v_2 72 (a2AtI more 0 101)).1.Count))).1.Count))).2)] [some (bxTrainedT v_1), some (.box [Sv ((rsR (Trained.mk ((adR v_1 v_2 72 (a2AtI more 0 101)).1.Label) bs_3 fs_3 ((adR v_1 v_2 72 (a2AtI more 0 101)).1.Count))).1.Label), .arr 8311, .arr 8312, I ((rsR (Trained.mk ((adR v_1 v_2 72 (a2AtI more 0 101)).1.Label) bs_3 fs_3 ((adR v_1 v_2 72 (a2AtI more 0 101)).1.Count))).1.Count)]), some (.arr 3 bs_6.length (fFeat bs_6)), some (.arr 3 fs_6.length (fFeat fs_6))] [Con Try.prog 23 [.agg [Sv ((rsR (Trained.mk ((adR v_1 v_2 72 (a2AtI more 0 101)).1.Label) bs_3 fs_3 ((adR v_1 v_2 72 (a2AtI more 0 101)).1.Count))).1.Label), slFeat false bs_6, slFeat false fs_6, I ((rsR (Trained.mk ((adR v_1 v_2 72 (a2AtI more 0 101)).1.Label) bs_3 fs_3 ((adR v_1 v_2 72 (a2AtI more 0 101)).1.Count))).1.Count)]] true (.tup [I ((shiftR (Trained.mk ((rsR (Trained.mk ((adR v_1 v_2 72 (a2AtI more 0 101)).1.Label) bs_3 fs_3 ((adR v_1 v_2 72 (a2AtI more 0 101)).1.Count))).1.Label) bs_6 fs_6 ((rsR (Trained.mk ((adR v_1 v_2 72 (a2AtI more 0 101)).1.Label) bs_3 fs_3 ((adR v_1 v_2 72 (a2AtI more 0 101)).1.Count))).1.Count))).1), I ((shiftR (Trained.mk ((rsR (Trained.mk ((adR v_1 v_2 72 (a2AtI more 0 101)).1.Label) bs_3 fs_3 ((adR v_1 v_2 72 (a2AtI more 0 101)).1.Count))).1.Label) bs_6 fs_6 ((rsR (Trained.mk ((adR v_1 v_2 72 (a2AtI more 0 101)).1.Label) bs_3 fs_3 ((adR v_1 v_2 72 (a2AtI more 0 101)).1.Count))).1.Count))).2)]) ∧ ((valOf (Sv ((rsR (Trained.mk ((adR v_1 v_2 72 (a2AtI more 0 101)).1.Label) bs_3 fs_3 ((adR v_1 v_2 72 (a2AtI more 0 101)).1.Count))).1.Label)) = valOf (Sv ((rsR (Trained.mk ((adR v_1 v_2 72 (a2AtI more 0 101)).1.Label) bs_3 fs_3 ((adR v_1 v_2 72 (a2AtI more 0 101)).1.Count))).1.Label))) ∧ ((false = true → true = true) ∧ 3 = 3 ∧ bs_6.length = bs_6.length ∧ ∀ i, i < bs_6.length → (fFeat bs_6) i = (fFeat bs_6) i ∨ (AV.idsL ((fFeat bs_6) i) = [] ∧ leL (fun _ => none) false ((fFeat bs_6) i) ((fFeat bs_6) i))) ∧ ((false = true → true = true) ∧ 3 = 3 ∧ fs_6.length = fs_6.length ∧ ∀ i, i < fs_6.length → (fFeat fs_6) i = (fFeat fs_6) i ∨ (AV.idsL ((fFeat fs_6) i) = [] ∧ leL (fun _ => none) false ((fFeat fs_6) i) ((fFeat fs_6) i))) ∧ (valOf (I ((rsR (Trained.mk ((adR v_1 v_2 72 (a2AtI more 0 101)).1.Label) bs_3 fs_3 ((adR v_1 v_2 72 (a2AtI more 0 101)).1.Count))).1.Count)) = valOf (I ((rsR (Trained.mk ((adR v_1 v_2 72 (a2AtI more 0 101)).1.Label) bs_3 fs_3 ((adR v_1 v_2 72 (a2AtI more 0 101)).1.Count))).1.Count))) ∧ ([] : List AV) = []) ∧ True] (by kernel_rfl) hB ⟨⟨(implShiftOf_ok (Trained.mk ((rsR (Trained.mk ((adR v_1 v_2 72 (a2AtI more 0 101)).1.Label) bs_3 fs_3 ((adR v_1 v_2 72 (a2AtI more 0 101)).1.Count))).1.Label) bs_6 fs_6 ((rsR (Trained.mk ((adR v_1 v_2 72 (a2AtI more 0 101)).1.Label) bs_3 fs_3 ((adR v_1 v_2 72 (a2AtI more 0 101)).1.Count))).1.Count)) (by rw [hX2]; exact hokX2)), ⟨rfl, ⟨⟨(fun h => by cases h), rfl, rfl, fun i _ => .inl rfl⟩, ⟨⟨(fun h => by cases h), rfl, rfl, fun i _ => .inl rfl⟩, ⟨rfl, rfl⟩⟩⟩⟩, trivial⟩, trivial⟩ ?_
   refine ae_then ?_
   refine aw_seq ?_
   refine aw_reg [(1, .dec true), (4, .dec true), (9, .dec true), (13, .dec true), (17, .dec true), (21, .dec true), (25, .dec true), (29, .dec true), (33, .dec true), (40, .call [(false, slFeat false fs_6), (false, slFeat false v_1.Base)] true (Bv (sameL fs_6 v_1.Base)))] [4] [] [Bv (sameL fs_6 v_1.Base)] [] [c_4 = 0, c_5 = 0, v_5 ≤ v_4, ((shiftR (Trained.mk ((adR v_1 v_2 72 (a2AtI more 0 101)).1.Label) bs_3 fs_3 ((adR v_1 v_2 72 (a2AtI more 0 101)).1.Count))).2) = 0, 0 ≤ ((shiftR (Trained.mk ((adR v_1 v_2 72 (a2AtI more 0 101)).1.Label) bs_3 fs_3 ((adR v_1 v_2 72 (a2AtI more 0 101)).1.Count))).1), ((shiftR (Trained.mk ((adR v_1 v_2 72 (a2AtI more 0 101)).1.Label) bs_3 fs_3 ((adR v_1 v_2 72 (a2AtI more 0 101)).1.Count))).1) ≤ 40, ((rsR (Trained.mk ((adR v_1 v_2 72 (a2AtI more 0 101)).1.Label) bs_3 fs_3 ((adR v_1 v_2 72 (a2AtI more 0 101)).1.Count))).2) = 0, ((shiftR (Trained.mk ((rsR (Trained.mk ((adR v_1 v_2 72 (a2AtI more 0 101)).1.Label) bs_3 fs_3 ((adR v_1 v_2 72 (a2AtI more 0 101)).1.Count))).1.Label) bs_6 fs_6 ((rsR (Trained.mk ((adR v_1 v_2 72 (a2AtI more 0 101)).1.Label) bs_3 fs_3 ((adR v_1 v_2 72 (a2AtI more 0 101)).1.Count))).1.Count))).2) = 0, ((shiftR (Trained.mk ((rsR (Trained.mk ((adR v_1 v_2 72 (a2AtI more 0 101)).1.Label) bs_3 fs_3 ((adR v_1 v_2 72 (a2AtI more 0 101)).1.Count))).1.Label) bs_6 fs_6 ((rsR (Trained.mk ((adR v_1 v_2 72 (a2AtI more 0 101)).1.Label) bs_3 fs_3 ((adR v_1 v_2 72 (a2AtI more 0 101)).1.Count))).1.Count))).1) = 0, Con Try.prog 21 [slFeat false fs_6, slFeat false v_1.Base] true (Bv (sameL fs_6 v_1.Base)) ∧ ((false = true → true = true) ∧ 3 = 3 ∧ fs_6.length = fs_6.length ∧ ∀ i, i < fs_6.length → (fFeat fs_6) i = (fFeat fs_6) i ∨ (AV.idsL ((fFeat fs_6) i) = [] ∧ leL (fun _ => none) false ((fFeat fs_6) i) ((fFeat fs_6) i))) ∧ ((false = true → true = true) ∧ 3 = 3 ∧ v_1.Base.length = v_1.Base.length ∧ ∀ i, i < v_1.Base.length → (fFeat v_1.Base) i = (fFeat v_1.Base) i ∨ (AV.idsL ((fFeat v_1.Base) i) = [] ∧ leL (fun _ => none) false ((fFeat v_1.Base) i) ((fFeat v_1.Base) i))) ∧ True] (by kernel_rfl) hB ⟨he0.2, he1.2, (by rw [he0.1, he1.1]; exact hless), (by rw [hX]; exact (shift_bd hok).2), (by rw [hX]; have := (shift_bd hok).1; omega), (by rw [hX]; have := (shift_bd hok).1; omega), (by rw [hX, rsR_yes hok]), (by rw [hX2, hrs.2]), (by rw [hX2, hrs.2]), ⟨(specSameFeats_ok fs_6 v_1.Base), ⟨(fun h => by cases h), rfl, rfl, fun i _ => .inl rfl⟩, ⟨(fun h => by cases h), rfl, rfl, fun i _ => .inl rfl⟩, trivial⟩, trivial⟩ ?_
   refine ae_then ?_
   refine aw_ret ?_
   refine ae_ret hB (Bv (sameL fs_6 v_1.Base)) (by kernel_rfl) (.inl (by first | rfl | (rw [hfs2, sameL_refl]))) rfl (fun _ => trivial)


/-! ### the row -/

theorem opens_t39 : OpensA Try.prog 39 (cLU8 false) (fun xs => ∀ y ∈ xs, inR .u8 y) :=
  opensA_slice (c := cU8) (sz := 1) Try.underlying39 (by kernel_rfl) (by decide) (fun x => ⟨rfl, by simp [oneA, cU8]⟩) (opensA_int Try.underlying5)

namespace fnAdapt
set_option maxRecDepth 100000 in
theorem lifted (os : Os) (started : os.Started) (H : Type) (enc : TypeId × Value → H) :
    ReturnsInHanded {} Try.checked os 4 .any (Rows.fnAdaptSpec.pre6 enc Try.prog Try.f4 Rows.fnAdaptRow.domain false) (Rows.fnAdaptSpec.post enc Try.prog Try.f4 false true false false) := by
  refine returnsInHanded_of_change_shaped (C := Try.checked) Try.own started (by kernel_rfl) Try.func4
    (ChangeSpec.witness6 (enc := enc) (C := Try.checked) false ⟨#[], #[.slice none 0 0, .slice none 0 0], []⟩ 8 (by kernel_rfl) (by kernel_rfl) (by kernel_rfl) (by kernel_rfl)) ?_
  intro W base args ds gs before hval0 hW hcnd hsz hshp _
  have hW' := hW
  obtain ⟨p, q, hA0, hV, rfl, hfz, hnd⟩ := hW
  have hval : ∀ (j : Nat) t v, Try.f4.params[j]? = some t → args[j]? = some v → Value.okWide Try.prog W .any base t v := hval0
  have hA : DataW.TrodAll enc Try.prog W 0 (fun _ => true) true Try.f4.params.toList args.toList ds p := hA0
  rw [Try.params4] at hA hval
  obtain ⟨v0, vs0, d0, ds0, p0, q0, hargs, rfl, rfl, h0, r0⟩ := trodAll_cons hA
  obtain ⟨v1, vs1, d1, ds1, p1, q1, rfl, rfl, rfl, h1, r1⟩ := trodAll_cons r0
  obtain ⟨rfl, rfl, rfl⟩ := trodAll_nil r1
  obtain rfl : args = #[v0, v1] := args_eq hargs
  obtain ⟨rfl, rfl⟩ := trodVars_none hV
  obtain ⟨fuel0, hf0⟩ := h0
  obtain ⟨A0, l0, c0, rfl⟩ := okWide_slice Try.underlying39 (hval 0 39 v0 rfl rfl)
  obtain ⟨x0, rx0, ok0⟩ := (opens_t39) enc W 0 _ _ _ _ _ hf0
  obtain ⟨fuel1, hf1⟩ := h1
  obtain ⟨A1, l1, c1, rfl⟩ := okWide_slice Try.underlying39 (hval 1 39 v1 rfl rfl)
  obtain ⟨x1, rx1, ok1⟩ := (opens_t39) enc W 0 _ _ _ _ _ hf1
  refine (walk_of0 (fnAdapt_con x0 x1 ok0 ok1) (fun w _ => WX_free w) (RelTL.cons (relTL_one rx0) (RelTL.cons (relTL_one rx1) RelTL.nil))).mono fun e W1 ⟨he, hb⟩ => ?_
  subst he
  exact ⟨_, rfl, law_post Try.laidOut rfl Try.underlying4 (of_decide_eq_true (by kernel_rfl)) rfl hW' hb rfl⟩

theorem over : Rows.fnAdaptRow.holds Try.pinned (OpenSpec.ofChange Rows.fnAdaptSpec) :=
  OpenClaim.holds_of_wide 4 Try.f4 rfl rfl rfl rfl rfl rfl rfl ⟨rfl, rfl, rfl, rfl, rfl⟩ rfl rfl rfl rfl rfl (by kernel_rfl) Try.func4 (by kernel_rfl)
    (of_decide_eq_true (by kernel_rfl)) (by unfold Func.isWrapper; first | (rw [if_pos (by decide +kernel)]; kernel_rfl) | (rw [if_neg (by decide +kernel)]; exact ⟨rfl, rfl⟩))
    (fun os started H enc _ => lifted os started H enc)

theorem proved : Rows.FnAdaptSaid :=
  over
#print axioms proved
end fnAdapt
end Go.Proofs.Ytcedmgpiaekfaaa.Ax
