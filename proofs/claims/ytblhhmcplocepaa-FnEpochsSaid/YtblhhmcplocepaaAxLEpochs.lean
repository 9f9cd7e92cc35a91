/- The statement FnEpochs: contracts of what it reaches, and its proof. No conditions. -/
import Derived.Test.YtblhhmcplocepaaAxLEpochs3
import Derived.Test.YtblhhmcplocepaaAxR
import Derived.Test.YtblhhmcplocepaaAxS
namespace Go.Proofs.Ytblhhmcplocepaa.Ax
open Go.RowKit Go.ChangeShapes Go.WideShapes
set_option linter.unusedVariables false
set_option linter.unusedSimpArgs false


-- impl.Train
theorem implTrain_ok (p : Perceptron) (list : List Sample) (epochs : Int) (ok : ∀ y ∈ p.Labels, y.size ≤ 9223372036854775807) (ok2 : ∀ y ∈ list, y.Label.size ≤ 9223372036854775807) : ∃ (v : Perceptron) (m : List Int) (c : Int), (((v, m), c) = traR p list epochs) ∧ Con Try.prog 21 [agPerceptron p, slSample false list, I epochs] true (.tup [agPerceptronT v, slI true m, I c]) := by
  have hh : ∃ r : Perceptron × (List Int) × Int, ((((r.1, r.2.1), r.2.2) = traR p list epochs) ∧ (True)) ∧ CallOK Try.prog 21 [agPerceptron p, slSample false list, I epochs] (lookO []) true (.tup [agPerceptronT r.1, slI true r.2.1, I r.2.2]) (lookO []) := by
    refine fn_okX (Φ := fun r : Perceptron × (List Int) × Int => (((r.1, r.2.1), r.2.2) = traR p list epochs) ∧ (True)) [] (fun r => []) (fn := Try.f21) (nt := 49) Try.func21 rfl rfl (args := [agPerceptron p, slSample false list, I epochs]) rfl (allcons (.inl ⟨rfl, by simp [tagged, taggedL, tagLI, tagS]⟩) (allcons (.inl ⟨rfl, tagSample false _⟩) (allcons (.inl ⟨rfl, trivial⟩) allnil))) (res := fun r => .tup [agPerceptronT r.1, slI true r.2.1, I r.2.2]) ?_
    refine xR [(0, .new 3), (1, .new 6)] [1, 2, 3, 6] [3, 6] [slSample false list, I epochs, .ref 3 0, .ref 6 0] [some (bxPerceptron p), some (.box [nilA, nilA])] [] trivial ?_
    refine x_seq ?_
    refine xR [(2, .call [(true, .any), (true, .any)] true (I (cdR p list)))] [1, 2, 3, 6, 9] [3, 6] [slSample false list, I epochs, .ref 3 0, .ref 6 0, I (cdR p list)] [some (bxPerceptron p), some (.box [nilA, nilA])] [Con Try.prog 59 [agPerceptron p, slSample false list] true (I (cdR p list)) ∧ True] ⟨⟨(trainable_ok p list ok ok2), trivial⟩, trivial⟩ ?_
    refine x_seq ?_
    by_cases h1 : (cdR p list) = 0
    ·have hc0 := h1
     have hcd := cd_ok hc0
     have hll := hcd.2.2
     refine x_r [(1, .dec false)] [1, 2, 3, 6, 9, 18] [3, 6] [slSample false list, I epochs, .ref 3 0, .ref 6 0, I (cdR p list), Bv false] [some (bxPerceptron p), some (.box [nilA, nilA])] [¬ ((cdR p list) ≠ 0)] ⟨(fun hq => hq h1), trivial⟩ ?_
     refine xe_then ?_
     refine x_false rfl ?_
     refine x_skip ?_
     refine xe_then ?_
     refine x_seq ?_
     refine x_seq ?_
     rcases Bool.eq_false_or_eq_true (inB epochs 0 20) with h2 | h2
     ·have hin := h2
      have hib := inB_iff.1 hin
      have hyes := tra_c (e := epochs) hc0 hin
      refine x_r [(1, .call [(true, .any), (true, .any), (true, .any)] true (Bv true))] [1, 2, 3, 6, 23] [3, 6] [slSample false list, I epochs, .ref 3 0, .ref 6 0, Bv false] [some (bxPerceptron p), some (.box [nilA, nilA])] [Con Try.prog 60 [I epochs, I 0, I 20] true (Bv true) ∧ True] ⟨⟨(con_bool h2 (within_ok epochs 0 20)), trivial⟩, trivial⟩ ?_
      refine xe_then ?_
      refine x_false rfl ?_
      refine x_skip ?_
      refine xe_then ?_
      refine x_seq ?_
      obtain ⟨ls_1, ws_1, hx1_0, hx1_1, hc1⟩ := copyPerceptron_ok p (okP_bd hcd.1)
      have hls : ls_1 = p.Labels := hx1_0
      have how : ws_1 = p.Weights := hx1_1
      refine x_r [(1, .lend [] [(9251, .arr 1 ls_1.length (fS ls_1)), (9203, .fam ws_1.length 1 (mLI ws_1) (gLI ws_1)), (9252, .oar [9203] 1 ws_1.length (oLI 9203 ws_1))] [(true, .any)] false (.agg [.arr 9251, .arr 9252])), (2, .new 10)] [1, 2, 6, 10] [6, 10, 9203, 9251, 9252] [slSample false list, I epochs, .ref 6 0, .ref 10 0] [some (.box [nilA, nilA]), some (.box [.arr 9251, .arr 9252]), some (.fam ws_1.length 1 (mLI ws_1) (gLI ws_1)), some (.arr 1 ls_1.length (fS ls_1)), some (.oar [9203] 1 ws_1.length (oLI 9203 ws_1))] [CallOK Try.prog 61 [agPerceptron p] (lookO []) false (.agg [.arr 9251, .arr 9252]) (lookO [(9251, .arr 1 ls_1.length (fS ls_1)), (9203, .fam ws_1.length 1 (mLI ws_1) (gLI ws_1)), (9252, .oar [9203] 1 ws_1.length (oLI 9203 ws_1))]) ∧ True] ⟨⟨hc1, trivial⟩, trivial⟩ ?_
      refine xe_then ?_
      refine xR [] [1, 2, 6, 10, 11] [6, 10, 9203, 9251, 9252] [slSample false list, I epochs, .ref 6 0, .ref 10 0, nilA] [some (.box [nilA, nilA]), some (.box [.arr 9251, .arr 9252]), some (.fam ws_1.length 1 (mLI ws_1) (gLI ws_1)), some (.arr 1 ls_1.length (fS ls_1)), some (.oar [9203] 1 ws_1.length (oLI 9203 ws_1))] [] trivial ?_
      refine x_seq ?_
      refine x_block ?_
      refine x_nil 11 711 1 (fun _ => []) (by kernel_rfl) ?_
      refine x_weak [] (T := [(1, slSample false list), (2, I epochs), (6, .ref 6 0), (10, .ref 10 0), (11, .arr 711)]) (O := [(6, .box [nilA, nilA]), (10, .box [.arr 9251, .arr 9252]), (711, .arr 1 (([] : List Int).length) (fI ([] : List Int))), (9203, .fam ws_1.length 1 (mLI ws_1) (gLI ws_1)), (9251, .arr 1 ls_1.length (fS ls_1)), (9252, .oar [9203] 1 ws_1.length (oLI 9203 ws_1))]) rfl (⟨.inl rfl, .inl rfl, .inl rfl, .inl rfl, .inl rfl, trivial⟩) (⟨.inl rfl, .inl rfl, .inr ⟨rfl, (by first | rfl | (simp; done) | (simp; omega) | omega), fun i_ hi_ => absurd hi_ (Nat.not_lt_zero _)⟩, .inl rfl, .inl rfl, .inl rfl, trivial⟩) ?_
      refine x_loop (X := Int × (List Int) × (List (List Int)) × (List ByteArray)) (fun x => mkS [(1, slSample false list), (2, I x.1), (6, .ref 6 0), (10, .ref 10 0), (11, .arr 711)] [(6, .box [nilA, nilA]), (10, .box [.arr 9251, .arr 9252]), (711, .arr 1 x.2.1.length (fI x.2.1)), (9203, .fam x.2.2.1.length 1 (mLI x.2.2.1) (gLI x.2.2.1)), (9251, .arr 1 x.2.2.2.length (fS x.2.2.2)), (9252, .oar [9203] 1 x.2.2.1.length (oLI 9203 x.2.2.1))]) (fun x => (0 ≤ x.1 ∧ x.1 ≤ epochs) ∧ (trS p list (epochs - x.1).toNat = ((Perceptron.mk x.2.2.2 x.2.2.1, x.2.1), (0, false))) ∧ (okPerc (Perceptron.mk x.2.2.2 x.2.2.1) = true) ∧ (x.2.2.2 = p.Labels) ∧ ((x.2.1.length : Int) = (epochs - x.1)) ∧ True) (fun x => x.1.toNat) (epochs, ([] : List Int), ws_1, ls_1) rfl (show (0 ≤ epochs ∧ epochs ≤ epochs) ∧ (trS p list (epochs - epochs).toNat = ((Perceptron.mk ls_1 ws_1, ([] : List Int)), (0, false))) ∧ (okPerc (Perceptron.mk ls_1 ws_1) = true) ∧ (ls_1 = p.Labels) ∧ ((([] : List Int).length : Int) = (epochs - epochs)) ∧ True from ⟨(by omega), (by (rw [hls, how]; first | rfl | (rw [show (epochs - epochs).toNat = 0 from by omega]; rfl))), (by (rw [hls, how]; exact hcd.1)), (by exact hls), (by (simp; try omega)), trivial⟩) (fun x hI => ?_)
      obtain ⟨epochs', counts, ws, ls⟩ := x
      obtain ⟨hi0, htr, hok, hlb, hml, _⟩ : (0 ≤ epochs' ∧ epochs' ≤ epochs) ∧ (trS p list (epochs - epochs').toNat = ((Perceptron.mk ls ws, counts), (0, false))) ∧ (okPerc (Perceptron.mk ls ws) = true) ∧ (ls = p.Labels) ∧ ((counts.length : Int) = (epochs - epochs')) ∧ True := hI
      show XW _ _ _ _ (mkS [(1, slSample false list), (2, I epochs'), (6, .ref 6 0), (10, .ref 10 0), (11, .arr 711)] [(6, .box [nilA, nilA]), (10, .box [.arr 9251, .arr 9252]), (711, .arr 1 counts.length (fI counts)), (9203, .fam ws.length 1 (mLI ws) (gLI ws)), (9251, .arr 1 ls.length (fS ls)), (9252, .oar [9203] 1 ws.length (oLI 9203 ws))]) _ _
      refine x_seq ?_
      refine x_seq ?_
      by_cases h3 : 0 < epochs'
      ·refine x_r [(1, .dec true)] [1, 2, 6, 10, 11, 28] [6, 10, 711, 9203, 9251, 9252] [slSample false list, I epochs', .ref 6 0, .ref 10 0, .arr 711, Bv true] [some (.box [nilA, nilA]), some (.box [.arr 9251, .arr 9252]), some (.arr 1 counts.length (fI counts)), some (.fam ws.length 1 (mLI ws) (gLI ws)), some (.arr 1 ls.length (fS ls)), some (.oar [9203] 1 ws.length (oLI 9203 ws))] [0 < epochs'] ⟨h3, trivial⟩ ?_
       refine xe_then ?_
       refine x_true rfl ?_
       refine x_skip ?_
       refine xe_then ?_
       refine x_seq ?_
       refine x_block ?_
       refine x_seq ?_
       refine x_weak [(9241, 9251), (9242, 9252)] (T := [(1, slSample false list), (2, I epochs'), (6, .ref 6 0), (10, .ref 10 0), (11, .arr 711), (28, Bv true)]) (O := [(6, .box [nilA, nilA]), (10, .box [.arr 9241, .arr 9242]), (711, .arr 1 counts.length (fI counts)), (9203, .fam ws.length 1 (mLI ws) (gLI ws)), (9241, .arr 1 ls.length (fS ls)), (9242, .oar [9203] 1 ws.length (oLI 9203 ws))]) rfl (⟨.inl rfl, .inl rfl, .inl rfl, .inl rfl, .inl rfl, .inl rfl, trivial⟩) (⟨.inl rfl, .inl rfl, .inl rfl, .inl rfl, .inl rfl, .inl rfl, trivial⟩) ?_
       obtain ⟨n_2, c_2, pLabels_2, pWeights_2, hx2_0, hx2_1, hx2_2, hc2⟩ := trainAll_ok (Perceptron.mk ls ws) list hok (fun j hj => by have q := (hcd.2.1 j hj).2; refine ⟨?_, q.2⟩; show _ ∈ ls; rw [hlb]; exact q.1) (by omega)
       have ht1 := hx2_0
       have ht2 := hx2_1
       have ht3 := hx2_2
       simp only at ht1
       refine x_r [(2, .lend [(9241, .arr 1 ls.length (fS ls), .arr 1 pLabels_2.length (fS pLabels_2)), (9203, .fam ws.length 1 (mLI ws) (gLI ws), .fam pWeights_2.length 1 (mLI pWeights_2) (gLI pWeights_2)), (9242, .oar [9203] 1 ws.length (oLI 9203 ws), .oar [9203] 1 pWeights_2.length (oLI 9203 pWeights_2))] [] [(true, .any), (true, .any)] true (.tup [I n_2, I c_2]))] [1, 2, 6, 10, 11, 12, 13] [6, 10, 711, 9203, 9241, 9242] [slSample false list, I epochs', .ref 6 0, .ref 10 0, .arr 711, I n_2, I c_2] [some (.box [nilA, nilA]), some (.box [.arr 9241, .arr 9242]), some (.arr 1 counts.length (fI counts)), some (.fam pWeights_2.length 1 (mLI pWeights_2) (gLI pWeights_2)), some (.arr 1 pLabels_2.length (fS pLabels_2)), some (.oar [9203] 1 pWeights_2.length (oLI 9203 pWeights_2))] [CallOK Try.prog 62 [.agg [.arr 9241, .arr 9242], slSample false list] (lookO [(9241, .arr 1 ls.length (fS ls)), (9203, .fam ws.length 1 (mLI ws) (gLI ws)), (9242, .oar [9203] 1 ws.length (oLI 9203 ws))]) true (.tup [I n_2, I c_2]) (lookO [(9241, .arr 1 pLabels_2.length (fS pLabels_2)), (9203, .fam pWeights_2.length 1 (mLI pWeights_2) (gLI pWeights_2)), (9242, .oar [9203] 1 pWeights_2.length (oLI 9203 pWeights_2))]) ∧ (((.arr 1 ls.length (fS ls) : Ob) = .arr 1 ls.length (fS ls) ∨ obLe noOb true (.arr 1 ls.length (fS ls)) (.arr 1 ls.length (fS ls))) ∧ taggedO false (.arr 1 ls.length (fS ls))) ∧ (((.fam ws.length 1 (mLI ws) (gLI ws) : Ob) = .fam ws.length 1 (mLI ws) (gLI ws) ∨ obLe noOb true (.fam ws.length 1 (mLI ws) (gLI ws)) (.fam ws.length 1 (mLI ws) (gLI ws))) ∧ taggedO false (.fam ws.length 1 (mLI ws) (gLI ws))) ∧ (((.oar [9203] 1 ws.length (oLI 9203 ws) : Ob) = .oar [9203] 1 ws.length (oLI 9203 ws) ∨ obLe noOb true (.oar [9203] 1 ws.length (oLI 9203 ws)) (.oar [9203] 1 ws.length (oLI 9203 ws))) ∧ taggedO false (.oar [9203] 1 ws.length (oLI 9203 ws))) ∧ True] ⟨⟨hc2, ⟨.inl rfl, fun _ _ => tagcS false _⟩, ⟨.inl rfl, (fun _ _ _ _ => tagcI false _)⟩, ⟨.inl rfl, (by intro i_ _; simp [oLI, oLIc, taggedL, tagged])⟩, trivial⟩, trivial⟩ ?_
       refine xe_then ?_
       refine x_seq ?_
       refine x_seq ?_
       by_cases h4 : c_2 = 0
       ·have hef := ep_fin hok ht1 ht2 ht3 h4
        have hgo := trS_go htr hef.symm
        have hnk := ep_ok (list := list) hok list.length (by rw [← hef])
        rw [← hef] at hnk
        refine x_r [(1, .dec false)] [1, 2, 6, 10, 11, 12, 13, 38] [6, 10, 711, 9203, 9241, 9242] [slSample false list, I epochs', .ref 6 0, .ref 10 0, .arr 711, I n_2, I c_2, Bv false] [some (.box [nilA, nilA]), some (.box [.arr 9241, .arr 9242]), some (.arr 1 counts.length (fI counts)), some (.fam pWeights_2.length 1 (mLI pWeights_2) (gLI pWeights_2)), some (.arr 1 pLabels_2.length (fS pLabels_2)), some (.oar [9203] 1 pWeights_2.length (oLI 9203 pWeights_2))] [¬ (c_2 ≠ 0)] ⟨(fun hq => hq h4), trivial⟩ ?_
        refine xe_then ?_
        refine x_false rfl ?_
        refine x_skip ?_
        refine xe_then ?_
        refine xR [(2, .new 43), (3, .new 44)] [1, 2, 6, 10, 11, 12] [6, 10, 44, 9203, 9241, 9242] [slSample false list, I epochs', .ref 6 0, .ref 10 0, .arr 44, I n_2] [some (.box [nilA, nilA]), some (.box [.arr 9241, .arr 9242]), some (.arr 1 (counts.length + 1) (catF counts.length (fI counts) (litF [I n_2] 1))), some (.fam pWeights_2.length 1 (mLI pWeights_2) (gLI pWeights_2)), some (.arr 1 pLabels_2.length (fS pLabels_2)), some (.oar [9203] 1 pWeights_2.length (oLI 9203 pWeights_2))] [(counts.length + 1) * 8 ≤ 140737488355328] ⟨(by omega), trivial⟩ ?_
        refine x_seq ?_
        by_cases h5 : n_2 = 0
        ·have hfin := trS_stop hgo (decide_eq_true h5) epochs.toNat (by omega)
         refine x_r [(1, .dec true)] [1, 2, 6, 10, 11, 46] [6, 10, 44, 9203, 9241, 9242] [slSample false list, I epochs', .ref 6 0, .ref 10 0, .arr 44, Bv true] [some (.box [nilA, nilA]), some (.box [.arr 9241, .arr 9242]), some (.arr 1 (counts.length + 1) (catF counts.length (fI counts) (litF [I n_2] 1))), some (.fam pWeights_2.length 1 (mLI pWeights_2) (gLI pWeights_2)), some (.arr 1 pLabels_2.length (fS pLabels_2)), some (.oar [9203] 1 pWeights_2.length (oLI 9203 pWeights_2))] [n_2 = 0] ⟨h5, trivial⟩ ?_
         refine xe_then ?_
         refine x_true rfl ?_
         refine x_exit ?_
         refine xe_exit_other rfl ?_
         refine xe_exit_then ?_
         refine xe_loop_exit ?_
         refine xe_exit_same ?_
         refine xe_then ?_
         refine xR [] [6, 7, 8] [6, 44, 9203, 9241, 9242] [.ref 6 0, .arr 44, I 0] [some (.box [.arr 9241, .arr 9242]), some (.arr 1 (counts.length + 1) (catF counts.length (fI counts) (litF [I n_2] 1))), some (.fam pWeights_2.length 1 (mLI pWeights_2) (gLI pWeights_2)), some (.arr 1 pLabels_2.length (fS pLabels_2)), some (.oar [9203] 1 pWeights_2.length (oLI 9203 pWeights_2))] [] trivial ?_
         refine x_ret ?_
         refine xe_end ((Perceptron.mk pLabels_2 pWeights_2), (counts ++ [n_2]), 0) (show ((((Perceptron.mk pLabels_2 pWeights_2), (counts ++ [n_2])), 0) = traR p list epochs) ∧ (True) from ⟨(by first | exact hno.symm | (rw [hyes, hfin])), trivial⟩) (trivial) (.tup [.agg [.arr 9241, .arr 9242], .arr 44, I 0]) (by kernel_rfl) (.inr ⟨⟨⟨(fun _ => rfl), rfl, rfl, fun i _ => .inl rfl⟩, ⟨⟨(fun _ => rfl), rfl, rfl, oleLI _ _ rfl⟩, rfl⟩⟩, ⟨⟨(fun _ => rfl), rfl, (by first | rfl | (simp; done) | (simp; omega) | omega), fun i_ hi_ => .inl (cat_snoc (enc := cI) (xs := counts) rfl i_ hi_)⟩, ⟨rfl, rfl⟩⟩⟩) (fun _ => rfl) (fun _ => (by simp [tagged, taggedL, tagI, tagLI, tagS]))
        have hgo2 := hgo
        rw [decide_eq_false h5] at hgo2
        refine x_r [(1, .dec false)] [1, 2, 6, 10, 11, 46] [6, 10, 44, 9203, 9241, 9242] [slSample false list, I epochs', .ref 6 0, .ref 10 0, .arr 44, Bv false] [some (.box [nilA, nilA]), some (.box [.arr 9241, .arr 9242]), some (.arr 1 (counts.length + 1) (catF counts.length (fI counts) (litF [I n_2] 1))), some (.fam pWeights_2.length 1 (mLI pWeights_2) (gLI pWeights_2)), some (.arr 1 pLabels_2.length (fS pLabels_2)), some (.oar [9203] 1 pWeights_2.length (oLI 9203 pWeights_2))] [¬ (n_2 = 0)] ⟨h5, trivial⟩ ?_
        refine xe_then ?_
        refine x_false rfl ?_
        refine x_skip ?_
        refine xe_block 1 ?_
        refine xe_then ?_
        refine x_r [] [1, 2, 6, 10, 11] [6, 10, 44, 9203, 9241, 9242] [slSample false list, I (epochs' - 1), .ref 6 0, .ref 10 0, .arr 44] [some (.box [nilA, nilA]), some (.box [.arr 9241, .arr 9242]), some (.arr 1 (counts.length + 1) (catF counts.length (fI counts) (litF [I n_2] 1))), some (.fam pWeights_2.length 1 (mLI pWeights_2) (gLI pWeights_2)), some (.arr 1 pLabels_2.length (fS pLabels_2)), some (.oar [9203] 1 pWeights_2.length (oLI 9203 pWeights_2))] [inR .i64 (epochs' - 1)] ⟨(inR_i64 (by omega) (by omega)), trivial⟩ ?_
        refine xe_weak [(711, 44), (9251, 9241), (9252, 9242)] (T := [(1, slSample false list), (2, I (epochs' - 1)), (6, .ref 6 0), (10, .ref 10 0), (11, .arr 711)]) (O := [(6, .box [nilA, nilA]), (10, .box [.arr 9251, .arr 9252]), (711, .arr 1 ((counts ++ [n_2]).length) (fI (counts ++ [n_2]))), (9203, .fam pWeights_2.length 1 (mLI pWeights_2) (gLI pWeights_2)), (9251, .arr 1 pLabels_2.length (fS pLabels_2)), (9252, .oar [9203] 1 pWeights_2.length (oLI 9203 pWeights_2))]) rfl (⟨.inl rfl, .inl rfl, .inl rfl, .inl rfl, .inl rfl, trivial⟩) (⟨.inl rfl, .inl rfl, .inr ⟨rfl, (by first | rfl | (simp; done) | (simp; omega) | omega), fun i_ hi_ => .inl (cat_snoc (enc := cI) (xs := counts) rfl i_ hi_)⟩, .inl rfl, .inl rfl, .inl rfl, trivial⟩) (xe_again ((epochs' - 1), (counts ++ [n_2]), pWeights_2, pLabels_2) rfl (show (0 ≤ (epochs' - 1) ∧ (epochs' - 1) ≤ epochs) ∧ (trS p list (epochs - (epochs' - 1)).toNat = ((Perceptron.mk pLabels_2 pWeights_2, (counts ++ [n_2])), (0, false))) ∧ (okPerc (Perceptron.mk pLabels_2 pWeights_2) = true) ∧ (pLabels_2 = p.Labels) ∧ (((counts ++ [n_2]).length : Int) = (epochs - (epochs' - 1))) ∧ True from ⟨(by omega), (by (rw [show (epochs - (epochs' - 1)).toNat = (epochs - epochs').toNat + 1 from by omega]; exact hgo2)), (by exact hnk.1), (by exact hnk.2.trans hlb), (by (simp; omega)), trivial⟩) (by first | (show ((epochs' - 1).toNat : Nat) < epochs'.toNat; omega) | (dsimp only; omega)))
       have her := trS_err htr (c := c_2) (by rw [ht2]) h4
       have hfin := trS_stop her rfl epochs.toNat (by omega)
       refine x_r [(1, .dec true)] [1, 2, 6, 10, 11, 12, 13, 38] [6, 10, 711, 9203, 9241, 9242] [slSample false list, I epochs', .ref 6 0, .ref 10 0, .arr 711, I n_2, I c_2, Bv true] [some (.box [nilA, nilA]), some (.box [.arr 9241, .arr 9242]), some (.arr 1 counts.length (fI counts)), some (.fam pWeights_2.length 1 (mLI pWeights_2) (gLI pWeights_2)), some (.arr 1 pLabels_2.length (fS pLabels_2)), some (.oar [9203] 1 pWeights_2.length (oLI 9203 pWeights_2))] [c_2 ≠ 0] ⟨h4, trivial⟩ ?_
       refine xe_then ?_
       refine x_true rfl ?_
       refine xR [] [6, 7, 8] [6] [.ref 6 0, nilA, I c_2] [some (.box [nilA, nilA])] [] trivial ?_
       refine x_ret ?_
       refine xe_ret_then (xe_ret_block (xe_ret_then (xe_loop_ret (xe_ret_block (xe_ret_then ?_)))))
       refine xe_end ((Perceptron.mk ([] : List ByteArray) ([] : List (List Int))), ([] : List Int), c_2) (show ((((Perceptron.mk ([] : List ByteArray) ([] : List (List Int))), ([] : List Int)), c_2) = traR p list epochs) ∧ (True) from ⟨(by first | exact hno.symm | (rw [hyes, hfin])), trivial⟩) (trivial) (.tup [.agg [nilA, nilA], nilA, I c_2]) (by kernel_rfl) (.inr ⟨⟨⟨rfl, rfl⟩, ⟨⟨rfl, rfl⟩, rfl⟩⟩, ⟨⟨rfl, rfl⟩, ⟨rfl, rfl⟩⟩⟩) (fun _ => rfl) (fun _ => (by simp [tagged, taggedL, tagI, tagLI, tagS]))
      have hfin := htr
      rw [show (epochs - epochs').toNat = epochs.toNat from by omega] at hfin
      refine x_r [(1, .dec false)] [1, 2, 6, 10, 11, 28] [6, 10, 711, 9203, 9251, 9252] [slSample false list, I epochs', .ref 6 0, .ref 10 0, .arr 711, Bv false] [some (.box [nilA, nilA]), some (.box [.arr 9251, .arr 9252]), some (.arr 1 counts.length (fI counts)), some (.fam ws.length 1 (mLI ws) (gLI ws)), some (.arr 1 ls.length (fS ls)), some (.oar [9203] 1 ws.length (oLI 9203 ws))] [¬ (0 < epochs')] ⟨h3, trivial⟩ ?_
      refine xe_then ?_
      refine x_false rfl ?_
      refine x_exit ?_
      refine xe_exit_then ?_
      refine xe_loop_exit ?_
      refine xe_exit_same ?_
      refine xe_then ?_
      refine xR [] [6, 7, 8] [6, 711, 9203, 9251, 9252] [.ref 6 0, .arr 711, I 0] [some (.box [.arr 9251, .arr 9252]), some (.arr 1 counts.length (fI counts)), some (.fam ws.length 1 (mLI ws) (gLI ws)), some (.arr 1 ls.length (fS ls)), some (.oar [9203] 1 ws.length (oLI 9203 ws))] [] trivial ?_
      refine x_ret ?_
      refine xe_end ((Perceptron.mk ls ws), counts, 0) (show ((((Perceptron.mk ls ws), counts), 0) = traR p list epochs) ∧ (True) from ⟨(by first | exact hno.symm | (rw [hyes, hfin])), trivial⟩) (trivial) (.tup [.agg [.arr 9251, .arr 9252], .arr 711, I 0]) (by kernel_rfl) (.inr ⟨⟨⟨(fun _ => rfl), rfl, rfl, fun i _ => .inl rfl⟩, ⟨⟨(fun _ => rfl), rfl, rfl, oleLI _ _ rfl⟩, rfl⟩⟩, ⟨⟨(fun _ => rfl), rfl, rfl, fun i _ => .inl rfl⟩, ⟨rfl, rfl⟩⟩⟩) (fun _ => rfl) (fun _ => (by simp [tagged, taggedL, tagI, tagLI, tagS]))
     have hno := tra_b (e := epochs) hc0 h2
     refine x_r [(1, .call [(true, .any), (true, .any), (true, .any)] true (Bv false))] [1, 2, 3, 6, 23] [3, 6] [slSample false list, I epochs, .ref 3 0, .ref 6 0, Bv true] [some (bxPerceptron p), some (.box [nilA, nilA])] [Con Try.prog 60 [I epochs, I 0, I 20] true (Bv false) ∧ True] ⟨⟨(con_bool h2 (within_ok epochs 0 20)), trivial⟩, trivial⟩ ?_
     refine xe_then ?_
     refine x_true rfl ?_
     refine xR [] [6, 7, 8] [6] [.ref 6 0, nilA, I 2] [some (.box [nilA, nilA])] [] trivial ?_
     refine x_ret ?_
     refine xe_ret_then ?_
     refine xe_end ((Perceptron.mk ([] : List ByteArray) ([] : List (List Int))), ([] : List Int), 2) (show ((((Perceptron.mk ([] : List ByteArray) ([] : List (List Int))), ([] : List Int)), 2) = traR p list epochs) ∧ (True) from ⟨(by first | exact hno.symm | (rw [hyes, hfin])), trivial⟩) (trivial) (.tup [.agg [nilA, nilA], nilA, I 2]) (by kernel_rfl) (.inr ⟨⟨⟨rfl, rfl⟩, ⟨⟨rfl, rfl⟩, rfl⟩⟩, ⟨⟨rfl, rfl⟩, ⟨rfl, rfl⟩⟩⟩) (fun _ => rfl) (fun _ => (by simp [tagged, taggedL, tagI, tagLI, tagS]))
    have hno := tra_a (e := epochs) h1
    refine x_r [(1, .dec true)] [1, 2, 3, 6, 9, 18] [3, 6] [slSample false list, I epochs, .ref 3 0, .ref 6 0, I (cdR p list), Bv true] [some (bxPerceptron p), some (.box [nilA, nilA])] [(cdR p list) ≠ 0] ⟨h1, trivial⟩ ?_
    refine xe_then ?_
    refine x_true rfl ?_
    refine xR [] [6, 7, 8] [6] [.ref 6 0, nilA, I (cdR p list)] [some (.box [nilA, nilA])] [] trivial ?_
    refine x_ret ?_
    refine xe_ret_then ?_
    refine xe_end ((Perceptron.mk ([] : List ByteArray) ([] : List (List Int))), ([] : List Int), (cdR p list)) (show ((((Perceptron.mk ([] : List ByteArray) ([] : List (List Int))), ([] : List Int)), (cdR p list)) = traR p list epochs) ∧ (True) from ⟨(by first | exact hno.symm | (rw [hyes, hfin])), trivial⟩) (trivial) (.tup [.agg [nilA, nilA], nilA, I (cdR p list)]) (by kernel_rfl) (.inr ⟨⟨⟨rfl, rfl⟩, ⟨⟨rfl, rfl⟩, rfl⟩⟩, ⟨⟨rfl, rfl⟩, ⟨rfl, rfl⟩⟩⟩) (fun _ => rfl) (fun _ => (by simp [tagged, taggedL, tagI, tagLI, tagS]))
  obtain ⟨⟨v, m, c⟩, ⟨hh0, _⟩, hc⟩ := hh
  exact ⟨v, m, c, hh0, hc⟩


-- spec.l08Feat
theorem l08Feat_ok (f : Feat) : Con Try.prog 74 [agFeat f] true (Bv (okF f)) := by
  refine fn_ok (fn := Try.f74) (nt := 16) Try.func74 rfl rfl rfl rfl (by simp [taggedL, tagged]) fun B hB => ?_
  refine aR [(0, .new 1)] [1] [1] [.ref 1 0] [some (bxFeat f)] [] hB trivial ?_
  refine aw_seq ?_
  rcases Bool.eq_false_or_eq_true (inB f.X 0 255) with h1 | h1
  ·rcases Bool.eq_false_or_eq_true (inB f.Y 0 255) with h2 | h2
   ·refine aw_r [(2, .call [(true, .any), (true, .any), (true, .any)] true (Bv true)), (6, .call [(true, .any), (true, .any), (true, .any)] true (Bv true)), (11, .call [(true, .any), (true, .any), (true, .any)] true (Bv (inB f.D 0 7)))] [2] [] [Bv (inB f.D 0 7)] [] [Con Try.prog 64 [I f.X, I 0, I 255] true (Bv true) ∧ True, Con Try.prog 64 [I f.Y, I 0, I 255] true (Bv true) ∧ True, Con Try.prog 64 [I f.D, I 0, I 7] true (Bv (inB f.D 0 7)) ∧ True] hB ⟨⟨(con_bool h1 (l00In_ok f.X 0 255)), trivial⟩, ⟨(con_bool h2 (l00In_ok f.Y 0 255)), trivial⟩, ⟨(l00In_ok f.D 0 7), trivial⟩, trivial⟩ ?_
    refine ae_then ?_
    refine aw_ret ?_
    refine ae_ret hB (Bv (inB f.D 0 7)) (by kernel_rfl) (.inl (by first | rfl | (refine congrArg Bv ?_; simp [okF, *]; done) | (refine congrArg Bv ?_; simp [okF, *]; omega) | (refine congrArg Bv ?_; simp_all [okF]; done) | (refine congrArg Bv ?_; simp_all [okF]; omega))) rfl (fun _ => trivial)
   refine aw_r [(2, .call [(true, .any), (true, .any), (true, .any)] true (Bv true)), (6, .call [(true, .any), (true, .any), (true, .any)] true (Bv false))] [2] [] [Bv false] [] [Con Try.prog 64 [I f.X, I 0, I 255] true (Bv true) ∧ True, Con Try.prog 64 [I f.Y, I 0, I 255] true (Bv false) ∧ True] hB ⟨⟨(con_bool h1 (l00In_ok f.X 0 255)), trivial⟩, ⟨(con_bool h2 (l00In_ok f.Y 0 255)), trivial⟩, trivial⟩ ?_
   refine ae_then ?_
   refine aw_ret ?_
   refine ae_ret hB (Bv false) (by kernel_rfl) (.inl (by first | rfl | (refine congrArg Bv ?_; simp [okF, *]; done) | (refine congrArg Bv ?_; simp [okF, *]; omega) | (refine congrArg Bv ?_; simp_all [okF]; done) | (refine congrArg Bv ?_; simp_all [okF]; omega))) rfl (fun _ => trivial)
  refine aw_r [(2, .call [(true, .any), (true, .any), (true, .any)] true (Bv false))] [2] [] [Bv false] [] [Con Try.prog 64 [I f.X, I 0, I 255] true (Bv false) ∧ True] hB ⟨⟨(con_bool h1 (l00In_ok f.X 0 255)), trivial⟩, trivial⟩ ?_
  refine ae_then ?_
  refine aw_ret ?_
  refine ae_ret hB (Bv false) (by kernel_rfl) (.inl (by first | rfl | (refine congrArg Bv ?_; simp [okF, *]; done) | (refine congrArg Bv ?_; simp [okF, *]; omega) | (refine congrArg Bv ?_; simp_all [okF]; done) | (refine congrArg Bv ?_; simp_all [okF]; omega))) rfl (fun _ => trivial)


-- spec.l08Ok
theorem l08Ok_ok (list : List Feat) : Con Try.prog 39 [slFeat false list] true (Bv (okFeats list 384)) := by
  refine fn_ok (fn := Try.f39) (nt := 19) Try.func39 rfl rfl rfl rfl (by simp [taggedL, tagged, tagFeat]) fun B hB => ?_
  refine aw_lens (x := slFeat false list) 0 rfl (fun len_list => ?_)
  simp [LenOK, LenL, cFeat, fFeat, slFeat] at len_list
  refine aR [] [0] [] [slFeat false list] [] [] hB trivial ?_
  refine aw_seq ?_
  refine aR [] [0, 3] [] [slFeat false list, I 0] [] [] hB trivial ?_
  refine aw_block ?_
  refine aw_loop (fun gn gσ => ∃ (i : Int), gn = ((list.length : Int) - i).toNat ∧ (0 ≤ i ∧ i ≤ (list.length : Int)) ∧ (∀ j : Nat, (j : Int) < i → okF (at_ list j) = true) ∧ gσ = mkS [(0, slFeat false list), (3, I i)] []) (((list.length : Int) - 0).toNat) ⟨0, rfl, (by omega), (by intro j hj; omega), rfl⟩ (fun gn gσ hI => ?_)
  obtain ⟨i, rfl, hi0, hall0, rfl⟩ := hI
  refine aw_seq ?_
  refine aw_seq ?_
  by_cases h1 : i < (list.length : Int)
  ·have hi : i.toNat < list.length := by omega
   refine aw_r [(3, .dec true)] [0, 3, 7] [] [slFeat false list, I i, Bv true] [] [i < (list.length : Int)] hB ⟨h1, trivial⟩ ?_
   refine ae_then ?_
   refine aw_true rfl ?_
   refine aw_skip ?_
   refine ae_then ?_
   refine aw_seq ?_
   refine aw_block ?_
   refine aw_seq ?_
   rcases Bool.eq_false_or_eq_true (okF (at_ list i.toNat)) with h2 | h2
   ·refine aw_r [(4, .call [(true, .any)] true (Bv true))] [0, 3, 15] [] [slFeat false list, I i, Bv false] [] [(0 : Int) ≤ i ∧ i < (list.length : Int), Con Try.prog 74 [agFeat (at_ list i.toNat)] true (Bv true) ∧ True] hB ⟨⟨(by omega), (by omega)⟩, ⟨(con_bool h2 (l08Feat_ok (at_ list i.toNat))), trivial⟩, trivial⟩ ?_
    refine ae_then ?_
    refine aw_false rfl ?_
    refine aw_skip ?_
    refine ae_block 1 ?_
    refine ae_then ?_
    refine aw_r [] [0, 3] [] [slFeat false list, I (i + 1)] [] [inR .i64 (i + 1)] hB ⟨(inR_i64 (by omega) (by omega)), trivial⟩ ?_
    exact ae_again _ (by omega) ⟨(i + 1), rfl, (by omega), (by intro j hj; by_cases ej : j = i.toNat; (subst ej; first | assumption | exact hok); exact hall0 j (by omega)), rfl⟩
   have hall : allN list.length (fun j => okF (at_ list j)) = false := allN_not hi h2
   refine aw_r [(4, .call [(true, .any)] true (Bv false))] [0, 3, 15] [] [slFeat false list, I i, Bv true] [] [(0 : Int) ≤ i ∧ i < (list.length : Int), Con Try.prog 74 [agFeat (at_ list i.toNat)] true (Bv false) ∧ True] hB ⟨⟨(by omega), (by omega)⟩, ⟨(con_bool h2 (l08Feat_ok (at_ list i.toNat))), trivial⟩, trivial⟩ ?_
   refine ae_then ?_
   refine aw_true rfl ?_
   refine aR [] [2] [] [Bv false] [] [] hB trivial ?_
   refine aw_ret ?_
   refine ae_ret_block (ae_ret_then (ae_ret_then (ae_ret_block (ae_ret_then ?_))))
   refine ae_ret hB (Bv false) (by kernel_rfl) (.inl (by first | rfl | (refine congrArg Bv ?_; simp [okFeats, inB, *]; done) | (refine congrArg Bv ?_; simp [okFeats, inB, *]; omega) | (refine congrArg Bv ?_; simp_all [okFeats, inB]; done) | (refine congrArg Bv ?_; simp_all [okFeats, inB]; omega))) rfl (fun _ => trivial)
  have hall : allN list.length (fun j => okF (at_ list j)) = true := allN_at (fun j hj => hall0 j (by omega))
  refine aw_r [(3, .dec false)] [0, 3, 7] [] [slFeat false list, I i, Bv false] [] [¬ (i < (list.length : Int))] hB ⟨h1, trivial⟩ ?_
  refine ae_then ?_
  refine aw_false rfl ?_
  refine aw_exit ?_
  refine ae_exit_then ?_
  refine ae_exit_then ?_
  refine ae_exit_same ?_
  refine ae_then ?_
  refine aR [(2, .call [(true, .any), (true, .any), (true, .any)] true (Bv (inB (list.length : Int) 1 384)))] [2] [] [Bv (inB (list.length : Int) 1 384)] [] [Con Try.prog 64 [I (list.length : Int), I 1, I 384] true (Bv (inB (list.length : Int) 1 384)) ∧ True] hB ⟨⟨(l00In_ok (list.length : Int) 1 384), trivial⟩, trivial⟩ ?_
  refine aw_ret ?_
  refine ae_ret hB (Bv (inB (list.length : Int) 1 384)) (by kernel_rfl) (.inl (by first | rfl | (refine congrArg Bv ?_; simp [okFeats, inB, *]; done) | (refine congrArg Bv ?_; simp [okFeats, inB, *]; omega) | (refine congrArg Bv ?_; simp_all [okFeats, inB]; done) | (refine congrArg Bv ?_; simp_all [okFeats, inB]; omega))) rfl (fun _ => trivial)


-- spec.l12Sample
theorem l12Sample_ok (s : Sample) (hz : s.Label.size ≤ 9223372036854775807) : Con Try.prog 88 [.ptr false [Sv s.Label, slFeat false s.Feats]] true (Bv (okS s)) := by
  refine fn_ok (fn := Try.f88) (nt := 15) Try.func88 rfl rfl rfl rfl (by simp [taggedL, tagged, tagFeat]) fun B hB => ?_
  refine aw_lens (x := .ptr false [Sv s.Label, slFeat false s.Feats]) 0 rfl (fun len_s => ?_)
  simp [LenOK, LenL, cFeat, fFeat, slFeat] at len_s
  refine aR [] [0] [] [.ptr false [Sv s.Label, slFeat false s.Feats]] [] [] hB trivial ?_
  refine aw_seq ?_
  rcases Bool.eq_false_or_eq_true (okLabel s.Label) with h1 | h1
  ·refine aw_r [(4, .call [(true, .any)] true (Bv true)), (10, .call [(true, .any)] true (Bv (okFeats s.Feats 384)))] [2] [] [Bv (okFeats s.Feats 384)] [] [Con Try.prog 78 [Sv s.Label] true (Bv true) ∧ True, Con Try.prog 39 [slFeat false s.Feats] true (Bv (okFeats s.Feats 384)) ∧ True] hB ⟨⟨(con_bool h1 (specIsLabel_ok s.Label hz)), trivial⟩, ⟨(l08Ok_ok s.Feats), trivial⟩, trivial⟩ ?_
   refine ae_then ?_
   refine aw_ret ?_
   refine ae_ret hB (Bv (okFeats s.Feats 384)) (by kernel_rfl) (.inl (by refine congrArg Bv ?_; unfold okS; first | (rw [show okLabel s.Label = false from by assumption]; rfl) | (rw [show okLabel s.Label = true from by assumption]; rfl))) rfl (fun _ => trivial)
  refine aw_r [(4, .call [(true, .any)] true (Bv false))] [2] [] [Bv false] [] [Con Try.prog 78 [Sv s.Label] true (Bv false) ∧ True] hB ⟨⟨(con_bool h1 (specIsLabel_ok s.Label hz)), trivial⟩, trivial⟩ ?_
  refine ae_then ?_
  refine aw_ret ?_
  refine ae_ret hB (Bv false) (by kernel_rfl) (.inl (by refine congrArg Bv ?_; unfold okS; first | (rw [show okLabel s.Label = false from by assumption]; rfl) | (rw [show okLabel s.Label = true from by assumption]; rfl))) rfl (fun _ => trivial)


-- spec.l12Code
theorem l12Code_ok (p : Perceptron) (list : List Sample) (ok : ∀ y ∈ p.Labels, y.size ≤ 9223372036854775807) (ok2 : ∀ y ∈ list, y.Label.size ≤ 9223372036854775807) : Con Try.prog 63 [.ptr false [slS false p.Labels, slLI false p.Weights], slSample false list] true (I (cdR p list)) := by
  refine fn_ok (fn := Try.f63) (nt := 38) Try.func63 rfl rfl rfl rfl (by simp [taggedL, tagged, tagLI, tagS, tagSample]) fun B hB => ?_
  refine aw_lens (x := .ptr false [slS false p.Labels, slLI false p.Weights]) 0 rfl (fun len_p => ?_)
  simp [LenOK, LenL, cI, cLI, cS, fI, fLI, fS, slI, slLI, slS] at len_p
  refine aw_lens (x := slSample false list) 1 rfl (fun len_list => ?_)
  simp [LenOK, LenL, cFeat, cSample, fFeat, fSample, slFeat, slSample] at len_list
  refine aR [] [0, 1] [] [.ptr false [slS false p.Labels, slLI false p.Weights], slSample false list] [] [] hB trivial ?_
  refine aw_seq ?_
  refine aw_seq ?_
  rcases Bool.eq_false_or_eq_true (okPerc p) with h1 | h1
  ·have hpk := h1
   refine aw_r [(1, .call [(true, .any)] true (Bv true))] [0, 1, 9] [] [.ptr false [slS false p.Labels, slLI false p.Weights], slSample false list, Bv false] [] [Con Try.prog 38 [.ptr false [slS false p.Labels, slLI false p.Weights]] true (Bv true) ∧ True] hB ⟨⟨(con_bool h1 (l12Ok_ok p ok)), trivial⟩, trivial⟩ ?_
   refine ae_then ?_
   refine aw_false rfl ?_
   refine aw_skip ?_
   refine ae_then ?_
   refine aw_seq ?_
   refine aR [] [0, 1, 5] [] [.ptr false [slS false p.Labels, slLI false p.Weights], slSample false list, I 0] [] [] hB trivial ?_
   refine aw_block ?_
   refine aw_loop (fun gn gσ => ∃ (i : Int), gn = ((list.length : Int) - i).toNat ∧ (0 ≤ i ∧ i ≤ (list.length : Int)) ∧ (∀ j : Nat, (j : Int) < i → okS (at_ list j) = true) ∧ gσ = mkS [(0, .ptr false [slS false p.Labels, slLI false p.Weights]), (1, slSample false list), (5, I i)] []) (((list.length : Int) - 0).toNat) ⟨0, rfl, (by omega), (by intro j hj; omega), rfl⟩ (fun gn gσ hI => ?_)
   obtain ⟨i, rfl, hi0, hall0, rfl⟩ := hI
   refine aw_seq ?_
   refine aw_seq ?_
   by_cases h2 : i < (list.length : Int)
   ·have hi : i.toNat < list.length := by omega
    refine aw_r [(3, .dec true)] [0, 1, 5, 13] [] [.ptr false [slS false p.Labels, slLI false p.Weights], slSample false list, I i, Bv true] [] [i < (list.length : Int)] hB ⟨h2, trivial⟩ ?_
    refine ae_then ?_
    refine aw_true rfl ?_
    refine aw_skip ?_
    refine ae_then ?_
    refine aw_seq ?_
    refine aw_block ?_
    refine aw_seq ?_
    rcases Bool.eq_false_or_eq_true (okS (at_ list i.toNat)) with h3 | h3
    ·have hok := h3
     refine aw_r [(3, .call [(true, .any)] true (Bv true))] [0, 1, 5, 20] [] [.ptr false [slS false p.Labels, slLI false p.Weights], slSample false list, I i, Bv false] [] [(0 : Int) ≤ i ∧ i < (list.length : Int), Con Try.prog 88 [.ptr false [Sv ((at_ list i.toNat).Label), slFeat false ((at_ list i.toNat).Feats)]] true (Bv true) ∧ True] hB ⟨⟨(by omega), (by omega)⟩, ⟨(con_bool h3 (l12Sample_ok (at_ list i.toNat) (ok2 _ (at_mem hi)))), trivial⟩, trivial⟩ ?_
     refine ae_then ?_
     refine aw_false rfl ?_
     refine aw_skip ?_
     refine ae_block 1 ?_
     refine ae_then ?_
     refine aw_r [] [0, 1, 5] [] [.ptr false [slS false p.Labels, slLI false p.Weights], slSample false list, I (i + 1)] [] [inR .i64 (i + 1)] hB ⟨(inR_i64 (by omega) (by omega)), trivial⟩ ?_
     exact ae_again _ (by omega) ⟨(i + 1), rfl, (by omega), (by intro j hj; by_cases ej : j = i.toNat; (subst ej; exact hok); exact hall0 j (by omega)), rfl⟩
    have hst := cd_b hpk (allN_not hi h3)
    refine aw_r [(3, .call [(true, .any)] true (Bv false))] [0, 1, 5, 20] [] [.ptr false [slS false p.Labels, slLI false p.Weights], slSample false list, I i, Bv true] [] [(0 : Int) ≤ i ∧ i < (list.length : Int), Con Try.prog 88 [.ptr false [Sv ((at_ list i.toNat).Label), slFeat false ((at_ list i.toNat).Feats)]] true (Bv false) ∧ True] hB ⟨⟨(by omega), (by omega)⟩, ⟨(con_bool h3 (l12Sample_ok (at_ list i.toNat) (ok2 _ (at_mem hi)))), trivial⟩, trivial⟩ ?_
    refine ae_then ?_
    refine aw_true rfl ?_
    refine aR [] [4] [] [I 1] [] [] hB trivial ?_
    refine aw_ret ?_
    refine ae_ret_block (ae_ret_then (ae_ret_then (ae_ret_block (ae_ret_then ?_))))
    refine ae_ret hB (I 1) (by kernel_rfl) (.inl (by exact congrArg I hst.symm)) rfl (fun _ => trivial)
   have hal : allN list.length (fun j => okS (at_ list j)) = true := allN_at (fun j hj => hall0 j (by omega))
   refine aw_r [(3, .dec false)] [0, 1, 5, 13] [] [.ptr false [slS false p.Labels, slLI false p.Weights], slSample false list, I i, Bv false] [] [¬ (i < (list.length : Int))] hB ⟨h2, trivial⟩ ?_
   refine ae_then ?_
   refine aw_false rfl ?_
   refine aw_exit ?_
   refine ae_exit_then ?_
   refine ae_exit_then ?_
   refine ae_exit_same ?_
   refine ae_then ?_
   refine aw_seq ?_
   refine aR [] [0, 1, 6] [] [.ptr false [slS false p.Labels, slLI false p.Weights], slSample false list, I 0] [] [] hB trivial ?_
   refine aw_block ?_
   refine aw_loop (fun gn gσ => ∃ (i' : Int), gn = ((list.length : Int) - i').toNat ∧ (0 ≤ i' ∧ i' ≤ (list.length : Int)) ∧ (∀ j : Nat, (j : Int) < i' → decide (0 ≤ fndL p.Labels (at_ list j).Label) = true) ∧ gσ = mkS [(0, .ptr false [slS false p.Labels, slLI false p.Weights]), (1, slSample false list), (6, I i')] []) (((list.length : Int) - 0).toNat) ⟨0, rfl, (by omega), (by intro j hj; omega), rfl⟩ (fun gn gσ hI => ?_)
   obtain ⟨i', rfl, hj0, hall1, rfl⟩ := hI
   refine aw_seq ?_
   refine aw_seq ?_
   by_cases h4 : i' < (list.length : Int)
   ·have hi2 : i'.toNat < list.length := by omega
    refine aw_r [(3, .dec true)] [0, 1, 6, 24] [] [.ptr false [slS false p.Labels, slLI false p.Weights], slSample false list, I i', Bv true] [] [i' < (list.length : Int)] hB ⟨h4, trivial⟩ ?_
    refine ae_then ?_
    refine aw_true rfl ?_
    refine aw_skip ?_
    refine ae_then ?_
    refine aw_seq ?_
    refine aw_block ?_
    refine aw_seq ?_
    by_cases h5 : (fndL p.Labels ((at_ list i'.toNat).Label)) < 0
    ·have hst := cd_c hpk hal (allN_not hi2 (decide_eq_false (by omega)))
     refine aw_r [(6, .call [(true, .any), (true, .any)] true (I (fndL p.Labels ((at_ list i'.toNat).Label)))), (7, .dec true)] [0, 1, 6, 34] [] [.ptr false [slS false p.Labels, slLI false p.Weights], slSample false list, I i', Bv true] [] [(0 : Int) ≤ i' ∧ i' < (list.length : Int), Con Try.prog 89 [.ptr false [slS false p.Labels, slLI false p.Weights], Sv ((at_ list i'.toNat).Label)] true (I (fndL p.Labels ((at_ list i'.toNat).Label))) ∧ True, (fndL p.Labels ((at_ list i'.toNat).Label)) < 0] hB ⟨⟨(by omega), (by omega)⟩, ⟨(l12Find_ok p ((at_ list i'.toNat).Label)), trivial⟩, h5, trivial⟩ ?_
     refine ae_then ?_
     refine aw_true rfl ?_
     refine aR [] [4] [] [I 3] [] [] hB trivial ?_
     refine aw_ret ?_
     refine ae_ret_block (ae_ret_then (ae_ret_then (ae_ret_block (ae_ret_then ?_))))
     refine ae_ret hB (I 3) (by kernel_rfl) (.inl (by exact congrArg I hst.symm)) rfl (fun _ => trivial)
    have hok2 : decide (0 ≤ fndL p.Labels (at_ list i'.toNat).Label) = true := decide_eq_true (by omega)
    refine aw_r [(6, .call [(true, .any), (true, .any)] true (I (fndL p.Labels ((at_ list i'.toNat).Label)))), (7, .dec false)] [0, 1, 6, 34] [] [.ptr false [slS false p.Labels, slLI false p.Weights], slSample false list, I i', Bv false] [] [(0 : Int) ≤ i' ∧ i' < (list.length : Int), Con Try.prog 89 [.ptr false [slS false p.Labels, slLI false p.Weights], Sv ((at_ list i'.toNat).Label)] true (I (fndL p.Labels ((at_ list i'.toNat).Label))) ∧ True, ¬ ((fndL p.Labels ((at_ list i'.toNat).Label)) < 0)] hB ⟨⟨(by omega), (by omega)⟩, ⟨(l12Find_ok p ((at_ list i'.toNat).Label)), trivial⟩, h5, trivial⟩ ?_
    refine ae_then ?_
    refine aw_false rfl ?_
    refine aw_skip ?_
    refine ae_block 3 ?_
    refine ae_then ?_
    refine aw_r [] [0, 1, 6] [] [.ptr false [slS false p.Labels, slLI false p.Weights], slSample false list, I (i' + 1)] [] [inR .i64 (i' + 1)] hB ⟨(inR_i64 (by omega) (by omega)), trivial⟩ ?_
    exact ae_again _ (by omega) ⟨(i' + 1), rfl, (by omega), (by intro j hj; by_cases ej : j = i'.toNat; (subst ej; exact hok2); exact hall1 j (by omega)), rfl⟩
   have hal2 : allN list.length (fun j => decide (0 ≤ fndL p.Labels (at_ list j).Label)) = true := allN_at (fun j hj => hall1 j (by omega))
   refine aw_r [(3, .dec false)] [0, 1, 6, 24] [] [.ptr false [slS false p.Labels, slLI false p.Weights], slSample false list, I i', Bv false] [] [¬ (i' < (list.length : Int))] hB ⟨h4, trivial⟩ ?_
   refine ae_then ?_
   refine aw_false rfl ?_
   refine aw_exit ?_
   refine ae_exit_then ?_
   refine ae_exit_then ?_
   refine ae_exit_same ?_
   refine ae_then ?_
   refine aw_seq ?_
   refine aw_seq ?_
   by_cases h6 : 40 < (list.length : Int)
   ·have hst := cd_d hpk hal hal2 h6
    refine aw_r [(2, .dec true)] [37] [] [Bv true] [] [40 < (list.length : Int)] hB ⟨h6, trivial⟩ ?_
    refine ae_then ?_
    refine aw_true rfl ?_
    refine aR [] [4] [] [I 2] [] [] hB trivial ?_
    refine aw_ret ?_
    refine ae_ret_then ?_
    refine ae_ret hB (I 2) (by kernel_rfl) (.inl (by exact congrArg I hst.symm)) rfl (fun _ => trivial)
   have hst := cd_e hpk hal hal2 h6
   refine aw_r [(2, .dec false)] [37] [] [Bv false] [] [¬ (40 < (list.length : Int))] hB ⟨h6, trivial⟩ ?_
   refine ae_then ?_
   refine aw_false rfl ?_
   refine aw_skip ?_
   refine ae_then ?_
   refine aR [] [4] [] [I 0] [] [] hB trivial ?_
   refine aw_ret ?_
   refine ae_ret hB (I 0) (by kernel_rfl) (.inl (by exact congrArg I hst.symm)) rfl (fun _ => trivial)
  have hst := cd_a (list := list) h1
  refine aw_r [(1, .call [(true, .any)] true (Bv false))] [0, 1, 9] [] [.ptr false [slS false p.Labels, slLI false p.Weights], slSample false list, Bv true] [] [Con Try.prog 38 [.ptr false [slS false p.Labels, slLI false p.Weights]] true (Bv false) ∧ True] hB ⟨⟨(con_bool h1 (l12Ok_ok p ok)), trivial⟩, trivial⟩ ?_
  refine ae_then ?_
  refine aw_true rfl ?_
  refine aR [] [4] [] [I 1] [] [] hB trivial ?_
  refine aw_ret ?_
  refine ae_ret_then ?_
  refine ae_ret hB (I 1) (by kernel_rfl) (.inl (by exact congrArg I hst.symm)) rfl (fun _ => trivial)


-- spec.Train
theorem specTrain_ok (p : Perceptron) (list : List Sample) (epochs : Int) (ok : ∀ y ∈ p.Labels, y.size ≤ 9223372036854775807) (ok2 : ∀ y ∈ list, y.Label.size ≤ 9223372036854775807) : ∃ (v : Perceptron) (m : List Int) (c : Int), (((v, m), c) = traR p list epochs) ∧ Con Try.prog 22 [agPerceptron p, slSample false list, I epochs] true (.tup [agPerceptronT v, slI true m, I c]) := by
  have hh : ∃ r : Perceptron × (List Int) × Int, ((((r.1, r.2.1), r.2.2) = traR p list epochs) ∧ (True)) ∧ CallOK Try.prog 22 [agPerceptron p, slSample false list, I epochs] (lookO []) true (.tup [agPerceptronT r.1, slI true r.2.1, I r.2.2]) (lookO []) := by
    refine fn_okX (Φ := fun r : Perceptron × (List Int) × Int => (((r.1, r.2.1), r.2.2) = traR p list epochs) ∧ (True)) [] (fun r => []) (fn := Try.f22) (nt := 56) Try.func22 rfl rfl (args := [agPerceptron p, slSample false list, I epochs]) rfl (allcons (.inl ⟨rfl, by simp [tagged, taggedL, tagLI, tagS]⟩) (allcons (.inl ⟨rfl, tagSample false _⟩) (allcons (.inl ⟨rfl, trivial⟩) allnil))) (res := fun r => .tup [agPerceptronT r.1, slI true r.2.1, I r.2.2]) ?_
    refine xR [(0, .new 3), (1, .new 6)] [1, 2, 3, 6] [3, 6] [slSample false list, I epochs, .ref 3 0, .ref 6 0] [some (bxPerceptron p), some (.box [nilA, nilA])] [] trivial ?_
    refine xR [(1, .call [(false, .ptr false [slS false p.Labels, slLI false p.Weights]), (true, .any)] true (I (cdR p list)))] [1, 2, 3, 6, 9] [3, 6] [slSample false list, I epochs, .ref 3 0, .ref 6 0, I (cdR p list)] [some (bxPerceptron p), some (.box [nilA, nilA])] [Con Try.prog 63 [.ptr false [slS false p.Labels, slLI false p.Weights], slSample false list] true (I (cdR p list)) ∧ ((false = true → true = true) ∧ AV.idsL [slS false p.Labels, slLI false p.Weights] = [] ∧ ((false = true → false = true) ∧ 1 = 1 ∧ p.Labels.length = p.Labels.length ∧ ∀ i_, i_ < p.Labels.length → (fS p.Labels) i_ = (fS p.Labels) i_ ∨ (AV.idsL ((fS p.Labels) i_) = [] ∧ leL (fun _ => none) false ((fS p.Labels) i_) ((fS p.Labels) i_))) ∧ ((false = true → false = true) ∧ 1 = 1 ∧ p.Weights.length = p.Weights.length ∧ ∀ i_, i_ < p.Weights.length → (fLI false p.Weights) i_ = (fLI false p.Weights) i_ ∨ (AV.idsL ((fLI false p.Weights) i_) = [] ∧ leL (fun _ => none) false ((fLI false p.Weights) i_) ((fLI false p.Weights) i_))) ∧ ([] : List AV) = []) ∧ True] ⟨⟨(l12Code_ok p list ok ok2), ⟨(fun h => by cases h), rfl, ⟨⟨(fun h => by cases h), rfl, rfl, fun i _ => .inl rfl⟩, ⟨⟨(fun h => by cases h), rfl, rfl, fun i _ => .inl rfl⟩, rfl⟩⟩⟩, trivial⟩, trivial⟩ ?_
    refine x_seq ?_
    refine x_seq ?_
    by_cases h1 : (cdR p list) = 0
    ·have hc0 := h1
     have hcd := cd_ok hc0
     have hll := hcd.2.2
     rcases Bool.eq_false_or_eq_true (inB epochs 0 20) with h2 | h2
     ·have hin := h2
      have hib := inB_iff.1 hin
      have hyes := tra_c (e := epochs) hc0 hin
      refine x_r [(1, .dec true), (4, .call [(true, .any), (true, .any), (true, .any)] true (Bv true))] [1, 2, 3, 6, 9, 24] [3, 6] [slSample false list, I epochs, .ref 3 0, .ref 6 0, I (cdR p list), Bv false] [some (bxPerceptron p), some (.box [nilA, nilA])] [(cdR p list) = 0, Con Try.prog 64 [I epochs, I 0, I 20] true (Bv true) ∧ True] ⟨h1, ⟨(con_bool h2 (l00In_ok epochs 0 20)), trivial⟩, trivial⟩ ?_
      refine xe_then ?_
      refine x_false rfl ?_
      refine x_skip ?_
      refine xe_then ?_
      refine x_seq ?_
      refine xR [(1, .dec false)] [1, 2, 3, 6, 9, 26] [3, 6] [slSample false list, I epochs, .ref 3 0, .ref 6 0, I (cdR p list), Bv false] [some (bxPerceptron p), some (.box [nilA, nilA])] [¬ ((cdR p list) ≠ 0)] ⟨(fun hq => hq h1), trivial⟩ ?_
      refine x_false rfl ?_
      refine x_skip ?_
      refine xe_then ?_
      refine x_seq ?_
      refine x_weak [] (T := [(1, slSample false list), (2, I epochs), (3, .ptr true [slS false p.Labels, slLI false p.Weights]), (6, .ref 6 0), (9, I (cdR p list)), (26, Bv false)]) (O := [(6, .box [nilA, nilA])]) rfl (⟨.inl rfl, .inl rfl, .inr ⟨(fun _ => rfl), rfl, ⟨⟨(fun h => by cases h), rfl, rfl, fun i _ => .inl rfl⟩, ⟨⟨(fun h => by cases h), rfl, rfl, fun i _ => .inl rfl⟩, rfl⟩⟩⟩, .inl rfl, .inl rfl, .inl rfl, trivial⟩) (⟨.inl rfl, trivial⟩) ?_
      obtain ⟨ls_1, ws_1, hx1_0, hx1_1, hc1⟩ := l12Own_ok p (okP_bd hcd.1)
      have hls : ls_1 = p.Labels := hx1_0
      have how : ws_1 = p.Weights := hx1_1
      refine x_r [(0, .lend [] [(9201, .arr 1 ls_1.length (fS ls_1)), (9202, .oar [9203] 1 ws_1.length (oLI 9203 ws_1)), (9203, .fam ws_1.length 1 (mLI ws_1) (gLI ws_1))] [(false, .ptr false [slS false p.Labels, slLI false p.Weights])] false (.agg [.arr 9201, .arr 9202])), (1, .new 10)] [1, 2, 6, 10] [6, 10, 9201, 9202, 9203] [slSample false list, I epochs, .ref 6 0, .ref 10 0] [some (.box [nilA, nilA]), some (.box [.arr 9201, .arr 9202]), some (.arr 1 ls_1.length (fS ls_1)), some (.oar [9203] 1 ws_1.length (oLI 9203 ws_1)), some (.fam ws_1.length 1 (mLI ws_1) (gLI ws_1))] [CallOK Try.prog 52 [.ptr false [slS false p.Labels, slLI false p.Weights]] (lookO []) false (.agg [.arr 9201, .arr 9202]) (lookO [(9201, .arr 1 ls_1.length (fS ls_1)), (9202, .oar [9203] 1 ws_1.length (oLI 9203 ws_1)), (9203, .fam ws_1.length 1 (mLI ws_1) (gLI ws_1))]) ∧ ((false = true → true = true) ∧ AV.idsL [slS false p.Labels, slLI false p.Weights] = [] ∧ ((false = true → false = true) ∧ 1 = 1 ∧ p.Labels.length = p.Labels.length ∧ ∀ i_, i_ < p.Labels.length → (fS p.Labels) i_ = (fS p.Labels) i_ ∨ (AV.idsL ((fS p.Labels) i_) = [] ∧ leL (fun _ => none) false ((fS p.Labels) i_) ((fS p.Labels) i_))) ∧ ((false = true → false = true) ∧ 1 = 1 ∧ p.Weights.length = p.Weights.length ∧ ∀ i_, i_ < p.Weights.length → (fLI false p.Weights) i_ = (fLI false p.Weights) i_ ∨ (AV.idsL ((fLI false p.Weights) i_) = [] ∧ leL (fun _ => none) false ((fLI false p.Weights) i_) ((fLI false p.Weights) i_))) ∧ ([] : List AV) = []) ∧ True] ⟨⟨hc1, ⟨(fun h => by cases h), rfl, ⟨⟨(fun h => by cases h), rfl, rfl, fun i _ => .inl rfl⟩, ⟨⟨(fun h => by cases h), rfl, rfl, fun i _ => .inl rfl⟩, rfl⟩⟩⟩, trivial⟩, trivial⟩ ?_
      refine xe_then ?_
      refine xR [(0, .new 30)] [1, 2, 6, 10, 11] [6, 10, 30, 9201, 9202, 9203] [slSample false list, I epochs, .ref 6 0, .ref 10 0, .arr 30] [some (.box [nilA, nilA]), some (.box [.arr 9201, .arr 9202]), some (.arr 1 0 (litF [] 1)), some (.arr 1 ls_1.length (fS ls_1)), some (.oar [9203] 1 ws_1.length (oLI 9203 ws_1)), some (.fam ws_1.length 1 (mLI ws_1) (gLI ws_1))] [] trivial ?_
      refine x_seq ?_
      refine xR [] [1, 2, 6, 10, 11, 12] [6, 10, 30, 9201, 9202, 9203] [slSample false list, I epochs, .ref 6 0, .ref 10 0, .arr 30, I 0] [some (.box [nilA, nilA]), some (.box [.arr 9201, .arr 9202]), some (.arr 1 0 (litF [] 1)), some (.arr 1 ls_1.length (fS ls_1)), some (.oar [9203] 1 ws_1.length (oLI 9203 ws_1)), some (.fam ws_1.length 1 (mLI ws_1) (gLI ws_1))] [] trivial ?_
      refine x_block ?_
      refine x_weak [] (T := [(1, slSample false list), (2, I epochs), (6, .ref 6 0), (10, .ref 10 0), (11, .arr 30), (12, I 0)]) (O := [(6, .box [nilA, nilA]), (10, .box [.arr 9201, .arr 9202]), (30, .arr 1 (([] : List Int).length) (fI ([] : List Int))), (9201, .arr 1 ls_1.length (fS ls_1)), (9202, .oar [9203] 1 ws_1.length (oLI 9203 ws_1)), (9203, .fam ws_1.length 1 (mLI ws_1) (gLI ws_1))]) rfl (⟨.inl rfl, .inl rfl, .inl rfl, .inl rfl, .inl rfl, .inl rfl, trivial⟩) (⟨.inl rfl, .inl rfl, .inr ⟨rfl, (by first | rfl | (simp; done) | (simp; omega) | omega), fun i_ hi_ => absurd hi_ (Nat.not_lt_zero _)⟩, .inl rfl, .inl rfl, .inl rfl, trivial⟩) ?_
      refine x_loop (X := (List Int) × Int × (List ByteArray) × (List (List Int))) (fun x => mkS [(1, slSample false list), (2, I epochs), (6, .ref 6 0), (10, .ref 10 0), (11, .arr 30), (12, I x.2.1)] [(6, .box [nilA, nilA]), (10, .box [.arr 9201, .arr 9202]), (30, .arr 1 x.1.length (fI x.1)), (9201, .arr 1 x.2.2.1.length (fS x.2.2.1)), (9202, .oar [9203] 1 x.2.2.2.length (oLI 9203 x.2.2.2)), (9203, .fam x.2.2.2.length 1 (mLI x.2.2.2) (gLI x.2.2.2))]) (fun x => (0 ≤ x.2.1 ∧ x.2.1 ≤ epochs) ∧ (trS p list x.2.1.toNat = ((Perceptron.mk x.2.2.1 x.2.2.2, x.1), (0, false))) ∧ (okPerc (Perceptron.mk x.2.2.1 x.2.2.2) = true) ∧ (x.2.2.1 = p.Labels) ∧ ((x.1.length : Int) = x.2.1) ∧ True) (fun x => (epochs - x.2.1).toNat) (([] : List Int), 0, ls_1, ws_1) rfl (show (0 ≤ (0 : Int) ∧ (0 : Int) ≤ epochs) ∧ (trS p list (0 : Int).toNat = ((Perceptron.mk ls_1 ws_1, ([] : List Int)), (0, false))) ∧ (okPerc (Perceptron.mk ls_1 ws_1) = true) ∧ (ls_1 = p.Labels) ∧ ((([] : List Int).length : Int) = (0 : Int)) ∧ True from ⟨(by omega), (by (rw [hls, how]; first | rfl | (rw [show (epochs - epochs).toNat = 0 from by omega]; rfl))), (by (rw [hls, how]; exact hcd.1)), (by exact hls), (by (simp; try omega)), trivial⟩) (fun x hI => ?_)
      obtain ⟨mistakes, k, ls, ws⟩ := x
      obtain ⟨hi0, htr, hok, hlb, hml, _⟩ : (0 ≤ k ∧ k ≤ epochs) ∧ (trS p list k.toNat = ((Perceptron.mk ls ws, mistakes), (0, false))) ∧ (okPerc (Perceptron.mk ls ws) = true) ∧ (ls = p.Labels) ∧ ((mistakes.length : Int) = k) ∧ True := hI
      show XW _ _ _ _ (mkS [(1, slSample false list), (2, I epochs), (6, .ref 6 0), (10, .ref 10 0), (11, .arr 30), (12, I k)] [(6, .box [nilA, nilA]), (10, .box [.arr 9201, .arr 9202]), (30, .arr 1 mistakes.length (fI mistakes)), (9201, .arr 1 ls.length (fS ls)), (9202, .oar [9203] 1 ws.length (oLI 9203 ws)), (9203, .fam ws.length 1 (mLI ws) (gLI ws))]) _ _
      refine x_seq ?_
      refine x_seq ?_
      by_cases h3 : k < epochs
      ·refine x_r [(2, .dec true)] [1, 2, 6, 10, 11, 12, 33] [6, 10, 30, 9201, 9202, 9203] [slSample false list, I epochs, .ref 6 0, .ref 10 0, .arr 30, I k, Bv true] [some (.box [nilA, nilA]), some (.box [.arr 9201, .arr 9202]), some (.arr 1 mistakes.length (fI mistakes)), some (.arr 1 ls.length (fS ls)), some (.oar [9203] 1 ws.length (oLI 9203 ws)), some (.fam ws.length 1 (mLI ws) (gLI ws))] [k < epochs] ⟨h3, trivial⟩ ?_
       refine xe_then ?_
       refine x_true rfl ?_
       refine x_skip ?_
       refine xe_then ?_
       refine x_seq ?_
       refine x_block ?_
       refine x_seq ?_
       refine x_weak [] (T := [(1, slSample false list), (2, I epochs), (6, .ref 6 0), (10, .ref 10 0), (11, .arr 30), (12, I k), (33, Bv true)]) (O := [(6, .box [nilA, nilA]), (10, .box [slS true ls, slLI true ws]), (30, .arr 1 mistakes.length (fI mistakes))]) rfl (⟨.inl rfl, .inl rfl, .inl rfl, .inl rfl, .inl rfl, .inl rfl, .inl rfl, trivial⟩) (⟨.inl rfl, .inr ⟨⟨(fun _ => rfl), rfl, rfl, fun i _ => .inl rfl⟩, ⟨⟨(fun _ => rfl), rfl, rfl, oleLI _ _ rfl⟩, rfl⟩⟩, .inl rfl, trivial⟩) ?_
       obtain ⟨n_2, c_2, ls_2, ws_2, hx2_0, hc2⟩ := l12Epoch_ok (Perceptron.mk ls ws) list hok (fun j hj => by have q := (hcd.2.1 j hj).2; refine ⟨?_, q.2⟩; show _ ∈ ls; rw [hlb]; exact q.1) (by omega)
       have hep := hx2_0
       refine x_r [(2, .lend [] [(9221, .arr 1 ls_2.length (fS ls_2)), (9203, .fam ws_2.length 1 (mLI ws_2) (gLI ws_2)), (9222, .oar [9203] 1 ws_2.length (oLI 9203 ws_2))] [(false, .agg [slS false ls, slLI false ws]), (true, .any)] false (.tup [.agg [.arr 9221, .arr 9222], I n_2, I c_2])), (7, .new 13)] [1, 2, 6, 10, 11, 12, 13, 14, 15] [6, 10, 13, 30, 9203, 9221, 9222] [slSample false list, I epochs, .ref 6 0, .ref 10 0, .arr 30, I k, .ref 13 0, I n_2, I c_2] [some (.box [nilA, nilA]), some (.box [slS true ls, slLI true ws]), some (.box [.arr 9221, .arr 9222]), some (.arr 1 mistakes.length (fI mistakes)), some (.fam ws_2.length 1 (mLI ws_2) (gLI ws_2)), some (.arr 1 ls_2.length (fS ls_2)), some (.oar [9203] 1 ws_2.length (oLI 9203 ws_2))] [CallOK Try.prog 65 [.agg [slS false ls, slLI false ws], slSample false list] (lookO []) false (.tup [.agg [.arr 9221, .arr 9222], I n_2, I c_2]) (lookO [(9221, .arr 1 ls_2.length (fS ls_2)), (9203, .fam ws_2.length 1 (mLI ws_2) (gLI ws_2)), (9222, .oar [9203] 1 ws_2.length (oLI 9203 ws_2))]) ∧ (((false = true → true = true) ∧ 1 = 1 ∧ ls.length = ls.length ∧ ∀ i_, i_ < ls.length → (fS ls) i_ = (fS ls) i_ ∨ (AV.idsL ((fS ls) i_) = [] ∧ leL (fun _ => none) false ((fS ls) i_) ((fS ls) i_))) ∧ ((false = true → true = true) ∧ 1 = 1 ∧ ws.length = ws.length ∧ ∀ i_, i_ < ws.length → (fLI true ws) i_ = (fLI false ws) i_ ∨ (AV.idsL ((fLI false ws) i_) = [] ∧ leL (fun _ => none) false ((fLI true ws) i_) ((fLI false ws) i_))) ∧ ([] : List AV) = []) ∧ True] ⟨⟨hc2, ⟨⟨(fun h => by cases h), rfl, rfl, fun i _ => .inl rfl⟩, ⟨⟨(fun h => by cases h), rfl, rfl, fun i _ => .inr ⟨idsLI _ _, leLI _ _ _⟩⟩, rfl⟩⟩, trivial⟩, trivial⟩ ?_
       refine xe_then ?_
       refine x_seq ?_
       refine x_seq ?_
       by_cases h4 : c_2 = 0
       ·have hef := hep
        rw [h4] at hef
        have hgo := trS_go htr hef.symm
        have hnk := ep_ok (list := list) hok list.length (by rw [← hef])
        rw [← hef] at hnk
        refine x_r [(1, .dec false)] [1, 2, 6, 10, 11, 12, 13, 14, 15, 44] [6, 10, 13, 30, 9203, 9221, 9222] [slSample false list, I epochs, .ref 6 0, .ref 10 0, .arr 30, I k, .ref 13 0, I n_2, I c_2, Bv false] [some (.box [nilA, nilA]), some (.box [slS true ls, slLI true ws]), some (.box [.arr 9221, .arr 9222]), some (.arr 1 mistakes.length (fI mistakes)), some (.fam ws_2.length 1 (mLI ws_2) (gLI ws_2)), some (.arr 1 ls_2.length (fS ls_2)), some (.oar [9203] 1 ws_2.length (oLI 9203 ws_2))] [¬ (c_2 ≠ 0)] ⟨(fun hq => hq h4), trivial⟩ ?_
        refine xe_then ?_
        refine x_false rfl ?_
        refine x_skip ?_
        refine xe_then ?_
        refine xR [] [1, 2, 6, 10, 11, 12, 14] [6, 10, 30, 9203, 9221, 9222] [slSample false list, I epochs, .ref 6 0, .ref 10 0, .arr 30, I k, I n_2] [some (.box [nilA, nilA]), some (.box [.arr 9221, .arr 9222]), some (.arr 1 mistakes.length (fI mistakes)), some (.fam ws_2.length 1 (mLI ws_2) (gLI ws_2)), some (.arr 1 ls_2.length (fS ls_2)), some (.oar [9203] 1 ws_2.length (oLI 9203 ws_2))] [] trivial ?_
        refine xR [(2, .new 50), (3, .new 51)] [1, 2, 6, 10, 11, 12, 14] [6, 10, 51, 9203, 9221, 9222] [slSample false list, I epochs, .ref 6 0, .ref 10 0, .arr 51, I k, I n_2] [some (.box [nilA, nilA]), some (.box [.arr 9221, .arr 9222]), some (.arr 1 (mistakes.length + 1) (catF mistakes.length (fI mistakes) (litF [I n_2] 1))), some (.fam ws_2.length 1 (mLI ws_2) (gLI ws_2)), some (.arr 1 ls_2.length (fS ls_2)), some (.oar [9203] 1 ws_2.length (oLI 9203 ws_2))] [(mistakes.length + 1) * 8 ≤ 140737488355328] ⟨(by omega), trivial⟩ ?_
        refine x_seq ?_
        by_cases h5 : n_2 = 0
        ·have hfin := trS_stop hgo (decide_eq_true h5) epochs.toNat (by omega)
         refine x_r [(1, .dec true)] [1, 2, 6, 10, 11, 12, 53] [6, 10, 51, 9203, 9221, 9222] [slSample false list, I epochs, .ref 6 0, .ref 10 0, .arr 51, I k, Bv true] [some (.box [nilA, nilA]), some (.box [.arr 9221, .arr 9222]), some (.arr 1 (mistakes.length + 1) (catF mistakes.length (fI mistakes) (litF [I n_2] 1))), some (.fam ws_2.length 1 (mLI ws_2) (gLI ws_2)), some (.arr 1 ls_2.length (fS ls_2)), some (.oar [9203] 1 ws_2.length (oLI 9203 ws_2))] [n_2 = 0] ⟨h5, trivial⟩ ?_
         refine xe_then ?_
         refine x_true rfl ?_
         refine x_exit ?_
         refine xe_exit_other rfl ?_
         refine xe_exit_then ?_
         refine xe_loop_exit ?_
         refine xe_exit_same ?_
         refine xe_then ?_
         refine xR [] [6, 7, 8] [6, 51, 9203, 9221, 9222] [.ref 6 0, .arr 51, I 0] [some (.box [.arr 9221, .arr 9222]), some (.arr 1 (mistakes.length + 1) (catF mistakes.length (fI mistakes) (litF [I n_2] 1))), some (.fam ws_2.length 1 (mLI ws_2) (gLI ws_2)), some (.arr 1 ls_2.length (fS ls_2)), some (.oar [9203] 1 ws_2.length (oLI 9203 ws_2))] [] trivial ?_
         refine x_ret ?_
         refine xe_end ((Perceptron.mk ls_2 ws_2), (mistakes ++ [n_2]), 0) (show ((((Perceptron.mk ls_2 ws_2), (mistakes ++ [n_2])), 0) = traR p list epochs) ∧ (True) from ⟨(by first | exact hno.symm | (rw [hyes, hfin])), trivial⟩) (trivial) (.tup [.agg [.arr 9221, .arr 9222], .arr 51, I 0]) (by kernel_rfl) (.inr ⟨⟨⟨(fun _ => rfl), rfl, rfl, fun i _ => .inl rfl⟩, ⟨⟨(fun _ => rfl), rfl, rfl, oleLI _ _ rfl⟩, rfl⟩⟩, ⟨⟨(fun _ => rfl), rfl, (by first | rfl | (simp; done) | (simp; omega) | omega), fun i_ hi_ => .inl (cat_snoc (enc := cI) (xs := mistakes) rfl i_ hi_)⟩, ⟨rfl, rfl⟩⟩⟩) (fun _ => rfl) (fun _ => (by simp [tagged, taggedL, tagI, tagLI, tagS]))
        have hgo2 := hgo
        rw [decide_eq_false h5] at hgo2
        refine x_r [(1, .dec false)] [1, 2, 6, 10, 11, 12, 53] [6, 10, 51, 9203, 9221, 9222] [slSample false list, I epochs, .ref 6 0, .ref 10 0, .arr 51, I k, Bv false] [some (.box [nilA, nilA]), some (.box [.arr 9221, .arr 9222]), some (.arr 1 (mistakes.length + 1) (catF mistakes.length (fI mistakes) (litF [I n_2] 1))), some (.fam ws_2.length 1 (mLI ws_2) (gLI ws_2)), some (.arr 1 ls_2.length (fS ls_2)), some (.oar [9203] 1 ws_2.length (oLI 9203 ws_2))] [¬ (n_2 = 0)] ⟨h5, trivial⟩ ?_
        refine xe_then ?_
        refine x_false rfl ?_
        refine x_skip ?_
        refine xe_block 1 ?_
        refine xe_then ?_
        refine x_r [] [1, 2, 6, 10, 11, 12] [6, 10, 51, 9203, 9221, 9222] [slSample false list, I epochs, .ref 6 0, .ref 10 0, .arr 51, I (k + 1)] [some (.box [nilA, nilA]), some (.box [.arr 9221, .arr 9222]), some (.arr 1 (mistakes.length + 1) (catF mistakes.length (fI mistakes) (litF [I n_2] 1))), some (.fam ws_2.length 1 (mLI ws_2) (gLI ws_2)), some (.arr 1 ls_2.length (fS ls_2)), some (.oar [9203] 1 ws_2.length (oLI 9203 ws_2))] [inR .i64 (k + 1)] ⟨(inR_i64 (by omega) (by omega)), trivial⟩ ?_
        refine xe_weak [(30, 51), (9201, 9221), (9202, 9222)] (T := [(1, slSample false list), (2, I epochs), (6, .ref 6 0), (10, .ref 10 0), (11, .arr 30), (12, I (k + 1))]) (O := [(6, .box [nilA, nilA]), (10, .box [.arr 9201, .arr 9202]), (30, .arr 1 ((mistakes ++ [n_2]).length) (fI (mistakes ++ [n_2]))), (9201, .arr 1 ls_2.length (fS ls_2)), (9202, .oar [9203] 1 ws_2.length (oLI 9203 ws_2)), (9203, .fam ws_2.length 1 (mLI ws_2) (gLI ws_2))]) rfl (⟨.inl rfl, .inl rfl, .inl rfl, .inl rfl, .inl rfl, .inl rfl, trivial⟩) (⟨.inl rfl, .inl rfl, .inr ⟨rfl, (by first | rfl | (simp; done) | (simp; omega) | omega), fun i_ hi_ => .inl (cat_snoc (enc := cI) (xs := mistakes) rfl i_ hi_)⟩, .inl rfl, .inl rfl, .inl rfl, trivial⟩) (xe_again ((mistakes ++ [n_2]), (k + 1), ls_2, ws_2) rfl (show (0 ≤ (k + 1) ∧ (k + 1) ≤ epochs) ∧ (trS p list (k + 1).toNat = ((Perceptron.mk ls_2 ws_2, (mistakes ++ [n_2])), (0, false))) ∧ (okPerc (Perceptron.mk ls_2 ws_2) = true) ∧ (ls_2 = p.Labels) ∧ (((mistakes ++ [n_2]).length : Int) = (k + 1)) ∧ True from ⟨(by omega), (by (rw [show (k + 1).toNat = k.toNat + 1 from by omega]; exact hgo2)), (by exact hnk.1), (by exact hnk.2.trans hlb), (by (simp; omega)), trivial⟩) (by first | (show ((epochs - (k + 1)).toNat : Nat) < (epochs - k).toNat; omega) | (dsimp only; omega)))
       have her := trS_err htr (c := c_2) (by rw [← hep]) h4
       have hfin := trS_stop her rfl epochs.toNat (by omega)
       refine x_r [(1, .dec true)] [1, 2, 6, 10, 11, 12, 13, 14, 15, 44] [6, 10, 13, 30, 9203, 9221, 9222] [slSample false list, I epochs, .ref 6 0, .ref 10 0, .arr 30, I k, .ref 13 0, I n_2, I c_2, Bv true] [some (.box [nilA, nilA]), some (.box [slS true ls, slLI true ws]), some (.box [.arr 9221, .arr 9222]), some (.arr 1 mistakes.length (fI mistakes)), some (.fam ws_2.length 1 (mLI ws_2) (gLI ws_2)), some (.arr 1 ls_2.length (fS ls_2)), some (.oar [9203] 1 ws_2.length (oLI 9203 ws_2))] [c_2 ≠ 0] ⟨h4, trivial⟩ ?_
       refine xe_then ?_
       refine x_true rfl ?_
       refine xR [] [6, 7, 8] [6] [.ref 6 0, nilA, I c_2] [some (.box [nilA, nilA])] [] trivial ?_
       refine x_ret ?_
       refine xe_ret_then (xe_ret_block (xe_ret_then (xe_loop_ret (xe_ret_block (xe_ret_then ?_)))))
       refine xe_end ((Perceptron.mk ([] : List ByteArray) ([] : List (List Int))), ([] : List Int), c_2) (show ((((Perceptron.mk ([] : List ByteArray) ([] : List (List Int))), ([] : List Int)), c_2) = traR p list epochs) ∧ (True) from ⟨(by first | exact hno.symm | (rw [hyes, hfin])), trivial⟩) (trivial) (.tup [.agg [nilA, nilA], nilA, I c_2]) (by kernel_rfl) (.inr ⟨⟨⟨rfl, rfl⟩, ⟨⟨rfl, rfl⟩, rfl⟩⟩, ⟨⟨rfl, rfl⟩, ⟨rfl, rfl⟩⟩⟩) (fun _ => rfl) (fun _ => (by simp [tagged, taggedL, tagI, tagLI, tagS]))
      have hfin := htr
      rw [show k.toNat = epochs.toNat from by omega] at hfin
      refine x_r [(2, .dec false)] [1, 2, 6, 10, 11, 12, 33] [6, 10, 30, 9201, 9202, 9203] [slSample false list, I epochs, .ref 6 0, .ref 10 0, .arr 30, I k, Bv false] [some (.box [nilA, nilA]), some (.box [.arr 9201, .arr 9202]), some (.arr 1 mistakes.length (fI mistakes)), some (.arr 1 ls.length (fS ls)), some (.oar [9203] 1 ws.length (oLI 9203 ws)), some (.fam ws.length 1 (mLI ws) (gLI ws))] [¬ (k < epochs)] ⟨h3, trivial⟩ ?_
      refine xe_then ?_
      refine x_false rfl ?_
      refine x_exit ?_
      refine xe_exit_then ?_
      refine xe_loop_exit ?_
      refine xe_exit_same ?_
      refine xe_then ?_
      refine xR [] [6, 7, 8] [6, 30, 9201, 9202, 9203] [.ref 6 0, .arr 30, I 0] [some (.box [.arr 9201, .arr 9202]), some (.arr 1 mistakes.length (fI mistakes)), some (.arr 1 ls.length (fS ls)), some (.oar [9203] 1 ws.length (oLI 9203 ws)), some (.fam ws.length 1 (mLI ws) (gLI ws))] [] trivial ?_
      refine x_ret ?_
      refine xe_end ((Perceptron.mk ls ws), mistakes, 0) (show ((((Perceptron.mk ls ws), mistakes), 0) = traR p list epochs) ∧ (True) from ⟨(by first | exact hno.symm | (rw [hyes, hfin])), trivial⟩) (trivial) (.tup [.agg [.arr 9201, .arr 9202], .arr 30, I 0]) (by kernel_rfl) (.inr ⟨⟨⟨(fun _ => rfl), rfl, rfl, fun i _ => .inl rfl⟩, ⟨⟨(fun _ => rfl), rfl, rfl, oleLI _ _ rfl⟩, rfl⟩⟩, ⟨⟨(fun _ => rfl), rfl, rfl, fun i _ => .inl rfl⟩, ⟨rfl, rfl⟩⟩⟩) (fun _ => rfl) (fun _ => (by simp [tagged, taggedL, tagI, tagLI, tagS]))
     have hno := tra_b (e := epochs) hc0 h2
     refine x_r [(1, .dec true), (4, .call [(true, .any), (true, .any), (true, .any)] true (Bv false))] [1, 2, 3, 6, 9, 24] [3, 6] [slSample false list, I epochs, .ref 3 0, .ref 6 0, I (cdR p list), Bv true] [some (bxPerceptron p), some (.box [nilA, nilA])] [(cdR p list) = 0, Con Try.prog 64 [I epochs, I 0, I 20] true (Bv false) ∧ True] ⟨h1, ⟨(con_bool h2 (l00In_ok epochs 0 20)), trivial⟩, trivial⟩ ?_
     refine xe_then ?_
     refine x_true rfl ?_
     refine x_r [] [1, 2, 3, 6, 9] [3, 6] [slSample false list, I epochs, .ref 3 0, .ref 6 0, I 2] [some (bxPerceptron p), some (.box [nilA, nilA])] [] trivial ?_
     refine xe_then ?_
     refine x_seq ?_
     refine xR [(1, .dec true)] [1, 2, 3, 6, 9, 26] [3, 6] [slSample false list, I epochs, .ref 3 0, .ref 6 0, I 2, Bv true] [some (bxPerceptron p), some (.box [nilA, nilA])] [(2 : Int) ≠ 0] ⟨(by decide), trivial⟩ ?_
     refine x_true rfl ?_
     refine xR [] [6, 7, 8] [6] [.ref 6 0, nilA, I 2] [some (.box [nilA, nilA])] [] trivial ?_
     refine x_ret ?_
     refine xe_ret_then ?_
     refine xe_end ((Perceptron.mk ([] : List ByteArray) ([] : List (List Int))), ([] : List Int), 2) (show ((((Perceptron.mk ([] : List ByteArray) ([] : List (List Int))), ([] : List Int)), 2) = traR p list epochs) ∧ (True) from ⟨(by first | exact hno.symm | (rw [hyes, hfin])), trivial⟩) (trivial) (.tup [.agg [nilA, nilA], nilA, I 2]) (by kernel_rfl) (.inr ⟨⟨⟨rfl, rfl⟩, ⟨⟨rfl, rfl⟩, rfl⟩⟩, ⟨⟨rfl, rfl⟩, ⟨rfl, rfl⟩⟩⟩) (fun _ => rfl) (fun _ => (by simp [tagged, taggedL, tagI, tagLI, tagS]))
    have hno := tra_a (e := epochs) h1
    refine x_r [(1, .dec false)] [1, 2, 3, 6, 9, 24] [3, 6] [slSample false list, I epochs, .ref 3 0, .ref 6 0, I (cdR p list), Bv false] [some (bxPerceptron p), some (.box [nilA, nilA])] [¬ ((cdR p list) = 0)] ⟨h1, trivial⟩ ?_
    refine xe_then ?_
    refine x_false rfl ?_
    refine x_skip ?_
    refine xe_then ?_
    refine x_seq ?_
    refine xR [(1, .dec true)] [1, 2, 3, 6, 9, 26] [3, 6] [slSample false list, I epochs, .ref 3 0, .ref 6 0, I (cdR p list), Bv true] [some (bxPerceptron p), some (.box [nilA, nilA])] [(cdR p list) ≠ 0] ⟨h1, trivial⟩ ?_
    refine x_true rfl ?_
    refine xR [] [6, 7, 8] [6] [.ref 6 0, nilA, I (cdR p list)] [some (.box [nilA, nilA])] [] trivial ?_
    refine x_ret ?_
    refine xe_ret_then ?_
    refine xe_end ((Perceptron.mk ([] : List ByteArray) ([] : List (List Int))), ([] : List Int), (cdR p list)) (show ((((Perceptron.mk ([] : List ByteArray) ([] : List (List Int))), ([] : List Int)), (cdR p list)) = traR p list epochs) ∧ (True) from ⟨(by first | exact hno.symm | (rw [hyes, hfin])), trivial⟩) (trivial) (.tup [.agg [nilA, nilA], nilA, I (cdR p list)]) (by kernel_rfl) (.inr ⟨⟨⟨rfl, rfl⟩, ⟨⟨rfl, rfl⟩, rfl⟩⟩, ⟨⟨rfl, rfl⟩, ⟨rfl, rfl⟩⟩⟩) (fun _ => rfl) (fun _ => (by simp [tagged, taggedL, tagI, tagLI, tagS]))
  obtain ⟨⟨v, m, c⟩, ⟨hh0, _⟩, hc⟩ := hh
  exact ⟨v, m, c, hh0, hc⟩


-- impl.TrainEpoch
theorem implTrainEpoch_ok (p : Perceptron) (list : List Sample) (ok : ∀ y ∈ p.Labels, y.size ≤ 9223372036854775807) (ok2 : ∀ y ∈ list, y.Label.size ≤ 9223372036854775807) : ∃ (v : Perceptron) (n : Int) (c : Int), ((v, n, c) = tepR p list) ∧ Con Try.prog 23 [agPerceptron p, slSample false list] true (.tup [agPerceptronT v, I n, I c]) := by
  have hh : ∃ r : Perceptron × Int × Int, (((r.1, r.2.1, r.2.2) = tepR p list) ∧ (True)) ∧ CallOK Try.prog 23 [agPerceptron p, slSample false list] (lookO []) true (.tup [agPerceptronT r.1, I r.2.1, I r.2.2]) (lookO []) := by
    refine fn_okX (Φ := fun r : Perceptron × Int × Int => ((r.1, r.2.1, r.2.2) = tepR p list) ∧ (True)) [] (fun r => []) (fn := Try.f23) (nt := 32) Try.func23 rfl rfl (args := [agPerceptron p, slSample false list]) rfl (allcons (.inl ⟨rfl, by simp [tagged, taggedL, tagLI, tagS]⟩) (allcons (.inl ⟨rfl, tagSample false _⟩) allnil)) (res := fun r => .tup [agPerceptronT r.1, I r.2.1, I r.2.2]) ?_
    refine xR [(0, .new 2), (1, .new 4)] [1, 2, 4] [2, 4] [slSample false list, .ref 2 0, .ref 4 0] [some (bxPerceptron p), some (.box [nilA, nilA])] [] trivial ?_
    refine x_seq ?_
    refine xR [(2, .call [(true, .any), (true, .any)] true (I (cdR p list)))] [1, 2, 4, 7] [2, 4] [slSample false list, .ref 2 0, .ref 4 0, I (cdR p list)] [some (bxPerceptron p), some (.box [nilA, nilA])] [Con Try.prog 59 [agPerceptron p, slSample false list] true (I (cdR p list)) ∧ True] ⟨⟨(trainable_ok p list ok ok2), trivial⟩, trivial⟩ ?_
    refine x_seq ?_
    by_cases h1 : (cdR p list) = 0
    ·have hc0 := h1
     have hcd := cd_ok hc0
     have hll := hcd.2.2
     refine x_r [(1, .dec false)] [1, 2, 4, 7, 15] [2, 4] [slSample false list, .ref 2 0, .ref 4 0, I (cdR p list), Bv false] [some (bxPerceptron p), some (.box [nilA, nilA])] [¬ ((cdR p list) ≠ 0)] ⟨(fun hq => hq h1), trivial⟩ ?_
     refine xe_then ?_
     refine x_false rfl ?_
     refine x_skip ?_
     refine xe_then ?_
     refine x_seq ?_
     obtain ⟨ls_1, ws_1, hx1_0, hx1_1, hc1⟩ := copyPerceptron_ok p (okP_bd hcd.1)
     have hls : ls_1 = p.Labels := hx1_0
     have how : ws_1 = p.Weights := hx1_1
     have hpp : Perceptron.mk ls_1 ws_1 = p := by rw [hls, how]
     refine x_r [(1, .lend [] [(9251, .arr 1 ls_1.length (fS ls_1)), (9203, .fam ws_1.length 1 (mLI ws_1) (gLI ws_1)), (9252, .oar [9203] 1 ws_1.length (oLI 9203 ws_1))] [(true, .any)] false (.agg [.arr 9251, .arr 9252])), (2, .new 8)] [1, 4, 8] [4, 8, 9203, 9251, 9252] [slSample false list, .ref 4 0, .ref 8 0] [some (.box [nilA, nilA]), some (.box [.arr 9251, .arr 9252]), some (.fam ws_1.length 1 (mLI ws_1) (gLI ws_1)), some (.arr 1 ls_1.length (fS ls_1)), some (.oar [9203] 1 ws_1.length (oLI 9203 ws_1))] [CallOK Try.prog 61 [agPerceptron p] (lookO []) false (.agg [.arr 9251, .arr 9252]) (lookO [(9251, .arr 1 ls_1.length (fS ls_1)), (9203, .fam ws_1.length 1 (mLI ws_1) (gLI ws_1)), (9252, .oar [9203] 1 ws_1.length (oLI 9203 ws_1))]) ∧ True] ⟨⟨hc1, trivial⟩, trivial⟩ ?_
     refine xe_then ?_
     refine x_seq ?_
     refine x_weak [(9241, 9251), (9242, 9252)] (T := [(1, slSample false list), (4, .ref 4 0), (8, .ref 8 0)]) (O := [(4, .box [nilA, nilA]), (8, .box [.arr 9241, .arr 9242]), (9203, .fam ws_1.length 1 (mLI ws_1) (gLI ws_1)), (9241, .arr 1 ls_1.length (fS ls_1)), (9242, .oar [9203] 1 ws_1.length (oLI 9203 ws_1))]) rfl (⟨.inl rfl, .inl rfl, .inl rfl, trivial⟩) (⟨.inl rfl, .inl rfl, .inl rfl, .inl rfl, .inl rfl, trivial⟩) ?_
     obtain ⟨n_2, c_2, pLabels_2, pWeights_2, hx2_0, hx2_1, hx2_2, hc2⟩ := trainAll_ok (Perceptron.mk ls_1 ws_1) list (by rw [hpp]; exact hcd.1) (fun j hj => by rw [hpp]; exact (hcd.2.1 j hj).2) (by omega)
     have ht1 := hx2_0
     have ht2 := hx2_1
     have ht3 := hx2_2
     rw [hpp] at ht2 ht3
     simp only at ht1
     have hye := tep_yes hc0
     refine x_r [(2, .lend [(9241, .arr 1 ls_1.length (fS ls_1), .arr 1 pLabels_2.length (fS pLabels_2)), (9203, .fam ws_1.length 1 (mLI ws_1) (gLI ws_1), .fam pWeights_2.length 1 (mLI pWeights_2) (gLI pWeights_2)), (9242, .oar [9203] 1 ws_1.length (oLI 9203 ws_1), .oar [9203] 1 pWeights_2.length (oLI 9203 pWeights_2))] [] [(true, .any), (true, .any)] true (.tup [I n_2, I c_2]))] [4, 8, 9, 10] [4, 8, 9203, 9241, 9242] [.ref 4 0, .ref 8 0, I n_2, I c_2] [some (.box [nilA, nilA]), some (.box [.arr 9241, .arr 9242]), some (.fam pWeights_2.length 1 (mLI pWeights_2) (gLI pWeights_2)), some (.arr 1 pLabels_2.length (fS pLabels_2)), some (.oar [9203] 1 pWeights_2.length (oLI 9203 pWeights_2))] [CallOK Try.prog 62 [.agg [.arr 9241, .arr 9242], slSample false list] (lookO [(9241, .arr 1 ls_1.length (fS ls_1)), (9203, .fam ws_1.length 1 (mLI ws_1) (gLI ws_1)), (9242, .oar [9203] 1 ws_1.length (oLI 9203 ws_1))]) true (.tup [I n_2, I c_2]) (lookO [(9241, .arr 1 pLabels_2.length (fS pLabels_2)), (9203, .fam pWeights_2.length 1 (mLI pWeights_2) (gLI pWeights_2)), (9242, .oar [9203] 1 pWeights_2.length (oLI 9203 pWeights_2))]) ∧ (((.arr 1 ls_1.length (fS ls_1) : Ob) = .arr 1 ls_1.length (fS ls_1) ∨ obLe noOb true (.arr 1 ls_1.length (fS ls_1)) (.arr 1 ls_1.length (fS ls_1))) ∧ taggedO false (.arr 1 ls_1.length (fS ls_1))) ∧ (((.fam ws_1.length 1 (mLI ws_1) (gLI ws_1) : Ob) = .fam ws_1.length 1 (mLI ws_1) (gLI ws_1) ∨ obLe noOb true (.fam ws_1.length 1 (mLI ws_1) (gLI ws_1)) (.fam ws_1.length 1 (mLI ws_1) (gLI ws_1))) ∧ taggedO false (.fam ws_1.length 1 (mLI ws_1) (gLI ws_1))) ∧ (((.oar [9203] 1 ws_1.length (oLI 9203 ws_1) : Ob) = .oar [9203] 1 ws_1.length (oLI 9203 ws_1) ∨ obLe noOb true (.oar [9203] 1 ws_1.length (oLI 9203 ws_1)) (.oar [9203] 1 ws_1.length (oLI 9203 ws_1))) ∧ taggedO false (.oar [9203] 1 ws_1.length (oLI 9203 ws_1))) ∧ True] ⟨⟨hc2, ⟨.inl rfl, fun _ _ => tagcS false _⟩, ⟨.inl rfl, (fun _ _ _ _ => tagcI false _)⟩, ⟨.inl rfl, (by intro i_ _; simp [oLI, oLIc, taggedL, tagged])⟩, trivial⟩, trivial⟩ ?_
     refine xe_then ?_
     refine x_seq ?_
     refine x_seq ?_
     by_cases h2 : c_2 = 0
     ·have hz := h2
      refine x_r [(1, .dec false)] [4, 8, 9, 10, 27] [4, 8, 9203, 9241, 9242] [.ref 4 0, .ref 8 0, I n_2, I c_2, Bv false] [some (.box [nilA, nilA]), some (.box [.arr 9241, .arr 9242]), some (.fam pWeights_2.length 1 (mLI pWeights_2) (gLI pWeights_2)), some (.arr 1 pLabels_2.length (fS pLabels_2)), some (.oar [9203] 1 pWeights_2.length (oLI 9203 pWeights_2))] [¬ (c_2 ≠ 0)] ⟨(fun hq => hq h2), trivial⟩ ?_
      refine xe_then ?_
      refine x_false rfl ?_
      refine x_skip ?_
      refine xe_then ?_
      refine xR [] [4, 5, 6] [4, 9203, 9241, 9242] [.ref 4 0, I n_2, I 0] [some (.box [.arr 9241, .arr 9242]), some (.fam pWeights_2.length 1 (mLI pWeights_2) (gLI pWeights_2)), some (.arr 1 pLabels_2.length (fS pLabels_2)), some (.oar [9203] 1 pWeights_2.length (oLI 9203 pWeights_2))] [] trivial ?_
      refine x_ret ?_
      refine xe_end ((Perceptron.mk pLabels_2 pWeights_2), n_2, 0) (show (((Perceptron.mk pLabels_2 pWeights_2), n_2, 0) = tepR p list) ∧ (True) from ⟨(by first | exact hno.symm | (rw [hye]; exact ep_badc ht2 hz) | (rw [hye]; exact ep_fin hcd.1 (ht1.trans hls) ht2 ht3 hz)), trivial⟩) (trivial) (.tup [.agg [.arr 9241, .arr 9242], I n_2, I 0]) (by kernel_rfl) (.inr ⟨⟨⟨(fun _ => rfl), rfl, rfl, fun i _ => .inl rfl⟩, ⟨⟨(fun _ => rfl), rfl, rfl, oleLI _ _ rfl⟩, rfl⟩⟩, ⟨rfl, ⟨rfl, rfl⟩⟩⟩) (fun _ => rfl) (fun _ => (by simp [tagged, taggedL, tagLI, tagS]))
     have hz := h2
     refine x_r [(1, .dec true)] [4, 8, 9, 10, 27] [4, 8, 9203, 9241, 9242] [.ref 4 0, .ref 8 0, I n_2, I c_2, Bv true] [some (.box [nilA, nilA]), some (.box [.arr 9241, .arr 9242]), some (.fam pWeights_2.length 1 (mLI pWeights_2) (gLI pWeights_2)), some (.arr 1 pLabels_2.length (fS pLabels_2)), some (.oar [9203] 1 pWeights_2.length (oLI 9203 pWeights_2))] [c_2 ≠ 0] ⟨h2, trivial⟩ ?_
     refine xe_then ?_
     refine x_true rfl ?_
     refine xR [] [4, 5, 6] [4] [.ref 4 0, I 0, I c_2] [some (.box [nilA, nilA])] [] trivial ?_
     refine x_ret ?_
     refine xe_ret_then ?_
     refine xe_end ((Perceptron.mk ([] : List ByteArray) ([] : List (List Int))), 0, c_2) (show (((Perceptron.mk ([] : List ByteArray) ([] : List (List Int))), 0, c_2) = tepR p list) ∧ (True) from ⟨(by first | exact hno.symm | (rw [hye]; exact ep_badc ht2 hz) | (rw [hye]; exact ep_fin hcd.1 (ht1.trans hls) ht2 ht3 hz)), trivial⟩) (trivial) (.tup [.agg [nilA, nilA], I 0, I c_2]) (by kernel_rfl) (.inr ⟨⟨⟨rfl, rfl⟩, ⟨⟨rfl, rfl⟩, rfl⟩⟩, ⟨rfl, ⟨rfl, rfl⟩⟩⟩) (fun _ => rfl) (fun _ => (by simp [tagged, taggedL, tagLI, tagS]))
    have hno := tep_no h1
    refine x_r [(1, .dec true)] [1, 2, 4, 7, 15] [2, 4] [slSample false list, .ref 2 0, .ref 4 0, I (cdR p list), Bv true] [some (bxPerceptron p), some (.box [nilA, nilA])] [(cdR p list) ≠ 0] ⟨h1, trivial⟩ ?_
    refine xe_then ?_
    refine x_true rfl ?_
    refine xR [] [4, 5, 6] [4] [.ref 4 0, I 0, I (cdR p list)] [some (.box [nilA, nilA])] [] trivial ?_
    refine x_ret ?_
    refine xe_ret_then ?_
    refine xe_end ((Perceptron.mk ([] : List ByteArray) ([] : List (List Int))), 0, (cdR p list)) (show (((Perceptron.mk ([] : List ByteArray) ([] : List (List Int))), 0, (cdR p list)) = tepR p list) ∧ (True) from ⟨(by first | exact hno.symm | (rw [hye]; exact ep_badc ht2 hz) | (rw [hye]; exact ep_fin hcd.1 (ht1.trans hls) ht2 ht3 hz)), trivial⟩) (trivial) (.tup [.agg [nilA, nilA], I 0, I (cdR p list)]) (by kernel_rfl) (.inr ⟨⟨⟨rfl, rfl⟩, ⟨⟨rfl, rfl⟩, rfl⟩⟩, ⟨rfl, ⟨rfl, rfl⟩⟩⟩) (fun _ => rfl) (fun _ => (by simp [tagged, taggedL, tagLI, tagS]))
  obtain ⟨⟨v, n, c⟩, ⟨hh0, _⟩, hc⟩ := hh
  exact ⟨v, n, c, hh0, hc⟩


-- spec.TrainEpoch
theorem specTrainEpoch_ok (p : Perceptron) (list : List Sample) (ok : ∀ y ∈ p.Labels, y.size ≤ 9223372036854775807) (ok2 : ∀ y ∈ list, y.Label.size ≤ 9223372036854775807) : ∃ (v : Perceptron) (n : Int) (c : Int), ((v, n, c) = tepR p list) ∧ Con Try.prog 24 [agPerceptron p, slSample false list] true (.tup [agPerceptronT v, I n, I c]) := by
  have hh : ∃ r : Perceptron × Int × Int, (((r.1, r.2.1, r.2.2) = tepR p list) ∧ (True)) ∧ CallOK Try.prog 24 [agPerceptron p, slSample false list] (lookO []) true (.tup [agPerceptronT r.1, I r.2.1, I r.2.2]) (lookO []) := by
    refine fn_okX (Φ := fun r : Perceptron × Int × Int => ((r.1, r.2.1, r.2.2) = tepR p list) ∧ (True)) [] (fun r => []) (fn := Try.f24) (nt := 20) Try.func24 rfl rfl (args := [agPerceptron p, slSample false list]) rfl (allcons (.inl ⟨rfl, by simp [tagged, taggedL, tagLI, tagS]⟩) (allcons (.inl ⟨rfl, tagSample false _⟩) allnil)) (res := fun r => .tup [agPerceptronT r.1, I r.2.1, I r.2.2]) ?_
    refine xR [(0, .new 2), (1, .new 4)] [1, 2, 4] [2, 4] [slSample false list, .ref 2 0, .ref 4 0] [some (bxPerceptron p), some (.box [nilA, nilA])] [] trivial ?_
    refine xR [(1, .call [(false, .ptr false [slS false p.Labels, slLI false p.Weights]), (true, .any)] true (I (cdR p list)))] [1, 2, 4, 7] [2, 4] [slSample false list, .ref 2 0, .ref 4 0, I (cdR p list)] [some (bxPerceptron p), some (.box [nilA, nilA])] [Con Try.prog 63 [.ptr false [slS false p.Labels, slLI false p.Weights], slSample false list] true (I (cdR p list)) ∧ ((false = true → true = true) ∧ AV.idsL [slS false p.Labels, slLI false p.Weights] = [] ∧ ((false = true → false = true) ∧ 1 = 1 ∧ p.Labels.length = p.Labels.length ∧ ∀ i_, i_ < p.Labels.length → (fS p.Labels) i_ = (fS p.Labels) i_ ∨ (AV.idsL ((fS p.Labels) i_) = [] ∧ leL (fun _ => none) false ((fS p.Labels) i_) ((fS p.Labels) i_))) ∧ ((false = true → false = true) ∧ 1 = 1 ∧ p.Weights.length = p.Weights.length ∧ ∀ i_, i_ < p.Weights.length → (fLI false p.Weights) i_ = (fLI false p.Weights) i_ ∨ (AV.idsL ((fLI false p.Weights) i_) = [] ∧ leL (fun _ => none) false ((fLI false p.Weights) i_) ((fLI false p.Weights) i_))) ∧ ([] : List AV) = []) ∧ True] ⟨⟨(l12Code_ok p list ok ok2), ⟨(fun h => by cases h), rfl, ⟨⟨(fun h => by cases h), rfl, rfl, fun i _ => .inl rfl⟩, ⟨⟨(fun h => by cases h), rfl, rfl, fun i _ => .inl rfl⟩, rfl⟩⟩⟩, trivial⟩, trivial⟩ ?_
    refine x_seq ?_
    refine x_seq ?_
    by_cases h1 : (cdR p list) = 0
    ·have hc0 := h1
     have hcd := cd_ok hc0
     have hll := hcd.2.2
     refine x_r [(1, .dec false)] [1, 2, 4, 7, 11] [2, 4] [slSample false list, .ref 2 0, .ref 4 0, I (cdR p list), Bv false] [some (bxPerceptron p), some (.box [nilA, nilA])] [¬ ((cdR p list) ≠ 0)] ⟨(fun hq => hq h1), trivial⟩ ?_
     refine xe_then ?_
     refine x_false rfl ?_
     refine x_skip ?_
     refine xe_then ?_
     refine x_seq ?_
     obtain ⟨n_1, c_1, ls_1, ws_1, hx1_0, hc1⟩ := l12Epoch_ok p list hcd.1 (fun j hj => (hcd.2.1 j hj).2) (by omega)
     have hep := hx1_0
     have hye := tep_yes hc0
     refine x_r [(2, .lend [] [(9221, .arr 1 ls_1.length (fS ls_1)), (9203, .fam ws_1.length 1 (mLI ws_1) (gLI ws_1)), (9222, .oar [9203] 1 ws_1.length (oLI 9203 ws_1))] [(true, .any), (true, .any)] false (.tup [.agg [.arr 9221, .arr 9222], I n_1, I c_1]))] [4, 5, 6] [4, 9203, 9221, 9222] [.ref 4 0, I n_1, I c_1] [some (.box [.arr 9221, .arr 9222]), some (.fam ws_1.length 1 (mLI ws_1) (gLI ws_1)), some (.arr 1 ls_1.length (fS ls_1)), some (.oar [9203] 1 ws_1.length (oLI 9203 ws_1))] [CallOK Try.prog 65 [agPerceptron p, slSample false list] (lookO []) false (.tup [.agg [.arr 9221, .arr 9222], I n_1, I c_1]) (lookO [(9221, .arr 1 ls_1.length (fS ls_1)), (9203, .fam ws_1.length 1 (mLI ws_1) (gLI ws_1)), (9222, .oar [9203] 1 ws_1.length (oLI 9203 ws_1))]) ∧ True] ⟨⟨hc1, trivial⟩, trivial⟩ ?_
     refine xe_then ?_
     refine x_ret ?_
     refine xe_end ((Perceptron.mk ls_1 ws_1), n_1, c_1) (show (((Perceptron.mk ls_1 ws_1), n_1, c_1) = tepR p list) ∧ (True) from ⟨(by first | exact hno.symm | (rw [hye]; exact hep)), trivial⟩) (trivial) (.tup [.agg [.arr 9221, .arr 9222], I n_1, I c_1]) (by kernel_rfl) (.inr ⟨⟨⟨(fun _ => rfl), rfl, rfl, fun i _ => .inl rfl⟩, ⟨⟨(fun _ => rfl), rfl, rfl, oleLI _ _ rfl⟩, rfl⟩⟩, ⟨rfl, ⟨rfl, rfl⟩⟩⟩) (fun _ => rfl) (fun _ => (by simp [tagged, taggedL, tagLI, tagS]))
    have hno := tep_no h1
    refine x_r [(1, .dec true)] [1, 2, 4, 7, 11] [2, 4] [slSample false list, .ref 2 0, .ref 4 0, I (cdR p list), Bv true] [some (bxPerceptron p), some (.box [nilA, nilA])] [(cdR p list) ≠ 0] ⟨h1, trivial⟩ ?_
    refine xe_then ?_
    refine x_true rfl ?_
    refine xR [] [4, 5, 6] [4] [.ref 4 0, I 0, I (cdR p list)] [some (.box [nilA, nilA])] [] trivial ?_
    refine x_ret ?_
    refine xe_ret_then ?_
    refine xe_end ((Perceptron.mk ([] : List ByteArray) ([] : List (List Int))), 0, (cdR p list)) (show (((Perceptron.mk ([] : List ByteArray) ([] : List (List Int))), 0, (cdR p list)) = tepR p list) ∧ (True) from ⟨(by first | exact hno.symm | (rw [hye]; exact hep)), trivial⟩) (trivial) (.tup [.agg [nilA, nilA], I 0, I (cdR p list)]) (by kernel_rfl) (.inr ⟨⟨⟨rfl, rfl⟩, ⟨⟨rfl, rfl⟩, rfl⟩⟩, ⟨rfl, ⟨rfl, rfl⟩⟩⟩) (fun _ => rfl) (fun _ => (by simp [tagged, taggedL, tagLI, tagS]))
  obtain ⟨⟨v, n, c⟩, ⟨hh0, _⟩, hc⟩ := hh
  exact ⟨v, n, c, hh0, hc⟩


-- impl.MistakesOf
theorem implMistakesOf_ok (p : Perceptron) (list : List Sample) (ok : ∀ y ∈ p.Labels, y.size ≤ 9223372036854775807) (ok2 : ∀ y ∈ list, y.Label.size ≤ 9223372036854775807) : ∃ (v : List Int) (c : Int), ((v, c) = misR p list) ∧ Con Try.prog 25 [agPerceptron p, slSample false list] true (.tup [slI true v, I c]) := by
  have hh : ∃ r : (List Int) × Int, (((r.1, r.2) = misR p list) ∧ (True)) ∧ CallOK Try.prog 25 [agPerceptron p, slSample false list] (lookO []) true (.tup [slI true r.1, I r.2]) (lookO []) := by
    refine fn_okX (Φ := fun r : (List Int) × Int => ((r.1, r.2) = misR p list) ∧ (True)) [] (fun r => []) (fn := Try.f25) (nt := 42) Try.func25 rfl rfl (args := [agPerceptron p, slSample false list]) rfl (allcons (.inl ⟨rfl, by simp [tagged, taggedL, tagLI, tagS]⟩) (allcons (.inl ⟨rfl, tagSample false _⟩) allnil)) (res := fun r => .tup [slI true r.1, I r.2]) ?_
    refine xR [(0, .new 2)] [1, 2] [2] [slSample false list, .ref 2 0] [some (bxPerceptron p)] [] trivial ?_
    refine x_seq ?_
    refine xR [(2, .call [(true, .any), (true, .any)] true (I (cdR p list)))] [1, 2, 6] [2] [slSample false list, .ref 2 0, I (cdR p list)] [some (bxPerceptron p)] [Con Try.prog 59 [agPerceptron p, slSample false list] true (I (cdR p list)) ∧ True] ⟨⟨(trainable_ok p list ok ok2), trivial⟩, trivial⟩ ?_
    refine x_seq ?_
    by_cases h1 : (cdR p list) = 0
    ·have hc0 := h1
     have hcd := cd_ok hc0
     have hll := hcd.2.2
     have hpn := okP_n hcd.1
     have hye := mis_yes hc0
     refine x_r [(1, .dec false)] [1, 2, 6, 14] [2] [slSample false list, .ref 2 0, I (cdR p list), Bv false] [some (bxPerceptron p)] [¬ ((cdR p list) ≠ 0)] ⟨(fun hq => hq h1), trivial⟩ ?_
     refine xe_then ?_
     refine x_false rfl ?_
     refine x_skip ?_
     refine xe_then ?_
     refine xR [] [1, 2, 7] [2] [slSample false list, .ref 2 0, nilA] [some (bxPerceptron p)] [] trivial ?_
     refine x_seq ?_
     refine xR [] [2, 7, 16, 17, 18] [2] [.ref 2 0, nilA, slSample false list, I (list.length : Int), I 0] [some (bxPerceptron p)] [] trivial ?_
     refine x_block ?_
     refine x_nil 7 707 1 (fun _ => []) (by kernel_rfl) ?_
     refine x_weak [] (T := [(2, .ref 2 0), (7, .arr 707), (16, slSample false list), (17, I (list.length : Int)), (18, I 0)]) (O := [(2, bxPerceptron p), (707, .arr 1 (([] : List Int).length) (fI ([] : List Int)))]) rfl (⟨.inl rfl, .inl rfl, .inl rfl, .inl rfl, .inl rfl, trivial⟩) (⟨.inl rfl, .inr ⟨rfl, (by first | rfl | (simp; done) | (simp; omega) | omega), fun i_ hi_ => absurd hi_ (Nat.not_lt_zero _)⟩, trivial⟩) ?_
     refine x_loop (X := (List Int) × Int) (fun x => mkS [(2, .ref 2 0), (7, .arr 707), (16, slSample false list), (17, I (list.length : Int)), (18, I x.2)] [(2, bxPerceptron p), (707, .arr 1 x.1.length (fI x.1))]) (fun x => (0 ≤ x.2 ∧ x.2 ≤ (list.length : Int)) ∧ (x.1 = misL p list x.2.toNat) ∧ ((x.1.length : Int) ≤ x.2) ∧ True) (fun x => ((list.length : Int) - x.2).toNat) (([] : List Int), 0) rfl (show (0 ≤ (0 : Int) ∧ (0 : Int) ≤ (list.length : Int)) ∧ (([] : List Int) = misL p list (0 : Int).toNat) ∧ ((([] : List Int).length : Int) ≤ (0 : Int)) ∧ True from ⟨(by omega), (by rfl), (by (simp; try omega)), trivial⟩) (fun x hI => ?_)
     obtain ⟨wrong, t18⟩ := x
     obtain ⟨hi0, hmi, hml, _⟩ : (0 ≤ t18 ∧ t18 ≤ (list.length : Int)) ∧ (wrong = misL p list t18.toNat) ∧ ((wrong.length : Int) ≤ t18) ∧ True := hI
     show XW _ _ _ _ (mkS [(2, .ref 2 0), (7, .arr 707), (16, slSample false list), (17, I (list.length : Int)), (18, I t18)] [(2, bxPerceptron p), (707, .arr 1 wrong.length (fI wrong))]) _ _
     refine x_seq ?_
     by_cases h2 : t18 < (list.length : Int)
     ·have hi : t18.toNat < list.length := by omega
      have hsm := hcd.2.1 t18.toNat hi
      refine x_r [(0, .dec true)] [2, 7, 16, 17, 18, 19] [2, 707] [.ref 2 0, .arr 707, slSample false list, I (list.length : Int), I t18, Bv true] [some (bxPerceptron p), some (.arr 1 wrong.length (fI wrong))] [t18 < (list.length : Int)] ⟨h2, trivial⟩ ?_
      refine xe_then ?_
      refine x_seq ?_
      refine x_true rfl ?_
      refine x_skip ?_
      refine xe_then ?_
      refine x_seq ?_
      refine x_block ?_
      refine xR [(3, .new 9)] [2, 7, 8, 9, 16, 17, 18] [2, 9, 707] [.ref 2 0, .arr 707, I t18, .ref 9 0, slSample false list, I (list.length : Int), I t18] [some (bxPerceptron p), some (bxSample (at_ list t18.toNat)), some (.arr 1 wrong.length (fI wrong))] [(0 : Int) ≤ t18 ∧ t18 < (list.length : Int)] ⟨⟨(by omega), (by omega)⟩, trivial⟩ ?_
      refine x_seq ?_
      obtain ⟨v_1, hx1_0, hc1⟩ := inputOf_ok ((at_ list t18.toNat).Feats) hsm.2.2
      have hinp := inp_ok (hsm.2.2) hx1_0
      have hiv := hx1_0
      obtain ⟨v_2, hx2_0, hc2⟩ := scoresOf_ok p v_1 hcd.1 hinp
      have hsv := hx2_0
      have hsl : v_2.length = p.Weights.length := by rw [hsv, scR_len]
      rw [hiv] at hsv
      have hbi := bstI_in (l := v_2) (by omega)
      by_cases h3 : (at_ p.Labels ((bstI v_2).toNat)) = ((at_ list t18.toNat).Label)
      ·have hm1 := misL_1 (p := p) (list := list) hi0.1
       rw [← hsv, if_pos h3, ← hmi] at hm1
       refine x_r [(5, .call [(true, .any)] true (slI true v_1)), (6, .call [(true, .any), (false, slI false v_1)] true (slI true v_2)), (7, .call [(false, slI false v_2)] true (I (bstI v_2))), (12, .dec false)] [2, 7, 8, 16, 17, 18, 35] [2, 707] [.ref 2 0, .arr 707, I t18, slSample false list, I (list.length : Int), I t18, Bv false] [some (bxPerceptron p), some (.arr 1 wrong.length (fI wrong))] [Con Try.prog 37 [slFeat false ((at_ list t18.toNat).Feats)] true (slI true v_1) ∧ True, Con Try.prog 36 [agPerceptron p, slI false v_1] true (slI true v_2) ∧ ((false = true → true = true) ∧ 1 = 1 ∧ v_1.length = v_1.length ∧ ∀ i_, i_ < v_1.length → (fI v_1) i_ = (fI v_1) i_ ∨ (AV.idsL ((fI v_1) i_) = [] ∧ leL (fun _ => none) false ((fI v_1) i_) ((fI v_1) i_))) ∧ True, Con Try.prog 42 [slI false v_2] true (I (bstI v_2)) ∧ ((false = true → true = true) ∧ 1 = 1 ∧ v_2.length = v_2.length ∧ ∀ i_, i_ < v_2.length → (fI v_2) i_ = (fI v_2) i_ ∨ (AV.idsL ((fI v_2) i_) = [] ∧ leL (fun _ => none) false ((fI v_2) i_) ((fI v_2) i_))) ∧ True, (0 : Int) ≤ (bstI v_2) ∧ (bstI v_2) < (p.Labels.length : Int), ¬ ((at_ p.Labels ((bstI v_2).toNat)) ≠ ((at_ list t18.toNat).Label))] ⟨⟨hc1, trivial⟩, ⟨hc2, ⟨(fun h => by cases h), rfl, rfl, fun i _ => .inl rfl⟩, trivial⟩, ⟨(winner_ok v_2 (by omega)), ⟨(fun h => by cases h), rfl, rfl, fun i _ => .inl rfl⟩, trivial⟩, ⟨(by omega), (by omega)⟩, (fun hq => hq h3), trivial⟩ ?_
       refine xe_then ?_
       refine x_false rfl ?_
       refine x_skip ?_
       refine xe_block 1 ?_
       refine xe_then ?_
       refine x_r [] [2, 7, 16, 17, 18] [2, 707] [.ref 2 0, .arr 707, slSample false list, I (list.length : Int), I (t18 + 1)] [some (bxPerceptron p), some (.arr 1 wrong.length (fI wrong))] [inR .i64 (t18 + 1)] ⟨(inR_i64 (by omega) (by omega)), trivial⟩ ?_
       exact xe_again (wrong, (t18 + 1)) rfl (show (0 ≤ (t18 + 1) ∧ (t18 + 1) ≤ (list.length : Int)) ∧ (wrong = misL p list (t18 + 1).toNat) ∧ ((wrong.length : Int) ≤ (t18 + 1)) ∧ True from ⟨(by omega), (by exact hm1.symm), (by first | omega | (simp; omega)), trivial⟩) (by first | (show (((list.length : Int) - (t18 + 1)).toNat : Nat) < ((list.length : Int) - t18).toNat; omega) | (dsimp only; omega))
      have hm1 := misL_1 (p := p) (list := list) hi0.1
      rw [← hsv, if_neg h3, ← hmi] at hm1
      refine x_r [(5, .call [(true, .any)] true (slI true v_1)), (6, .call [(true, .any), (false, slI false v_1)] true (slI true v_2)), (7, .call [(false, slI false v_2)] true (I (bstI v_2))), (12, .dec true)] [2, 7, 8, 16, 17, 18, 35] [2, 707] [.ref 2 0, .arr 707, I t18, slSample false list, I (list.length : Int), I t18, Bv true] [some (bxPerceptron p), some (.arr 1 wrong.length (fI wrong))] [Con Try.prog 37 [slFeat false ((at_ list t18.toNat).Feats)] true (slI true v_1) ∧ True, Con Try.prog 36 [agPerceptron p, slI false v_1] true (slI true v_2) ∧ ((false = true → true = true) ∧ 1 = 1 ∧ v_1.length = v_1.length ∧ ∀ i_, i_ < v_1.length → (fI v_1) i_ = (fI v_1) i_ ∨ (AV.idsL ((fI v_1) i_) = [] ∧ leL (fun _ => none) false ((fI v_1) i_) ((fI v_1) i_))) ∧ True, Con Try.prog 42 [slI false v_2] true (I (bstI v_2)) ∧ ((false = true → true = true) ∧ 1 = 1 ∧ v_2.length = v_2.length ∧ ∀ i_, i_ < v_2.length → (fI v_2) i_ = (fI v_2) i_ ∨ (AV.idsL ((fI v_2) i_) = [] ∧ leL (fun _ => none) false ((fI v_2) i_) ((fI v_2) i_))) ∧ True, (0 : Int) ≤ (bstI v_2) ∧ (bstI v_2) < (p.Labels.length : Int), (at_ p.Labels ((bstI v_2).toNat)) ≠ ((at_ list t18.toNat).Label)] ⟨⟨hc1, trivial⟩, ⟨hc2, ⟨(fun h => by cases h), rfl, rfl, fun i _ => .inl rfl⟩, trivial⟩, ⟨(winner_ok v_2 (by omega)), ⟨(fun h => by cases h), rfl, rfl, fun i _ => .inl rfl⟩, trivial⟩, ⟨(by omega), (by omega)⟩, h3, trivial⟩ ?_
      refine xe_then ?_
      refine x_true rfl ?_
      refine x_r [(2, .new 38), (3, .new 39)] [2, 7, 16, 17, 18] [2, 39] [.ref 2 0, .arr 39, slSample false list, I (list.length : Int), I t18] [some (bxPerceptron p), some (.arr 1 (wrong.length + 1) (catF wrong.length (fI wrong) (litF [I t18] 1)))] [(wrong.length + 1) * 8 ≤ 140737488355328] ⟨(by omega), trivial⟩ ?_
      refine xe_block 1 ?_
      refine xe_then ?_
      refine x_r [] [2, 7, 16, 17, 18] [2, 39] [.ref 2 0, .arr 39, slSample false list, I (list.length : Int), I (t18 + 1)] [some (bxPerceptron p), some (.arr 1 (wrong.length + 1) (catF wrong.length (fI wrong) (litF [I t18] 1)))] [inR .i64 (t18 + 1)] ⟨(inR_i64 (by omega) (by omega)), trivial⟩ ?_
      refine xe_weak [(707, 39)] (T := [(2, .ref 2 0), (7, .arr 707), (16, slSample false list), (17, I (list.length : Int)), (18, I (t18 + 1))]) (O := [(2, bxPerceptron p), (707, .arr 1 ((wrong ++ [t18]).length) (fI (wrong ++ [t18])))]) rfl (⟨.inl rfl, .inl rfl, .inl rfl, .inl rfl, .inl rfl, trivial⟩) (⟨.inl rfl, .inr ⟨rfl, (by first | rfl | (simp; done) | (simp; omega) | omega), fun i_ hi_ => .inl (cat_snoc (enc := cI) (xs := wrong) rfl i_ hi_)⟩, trivial⟩) (xe_again ((wrong ++ [t18]), (t18 + 1)) rfl (show (0 ≤ (t18 + 1) ∧ (t18 + 1) ≤ (list.length : Int)) ∧ ((wrong ++ [t18]) = misL p list (t18 + 1).toNat) ∧ (((wrong ++ [t18]).length : Int) ≤ (t18 + 1)) ∧ True from ⟨(by omega), (by exact hm1.symm), (by first | omega | (simp; omega)), trivial⟩) (by first | (show (((list.length : Int) - (t18 + 1)).toNat : Nat) < ((list.length : Int) - t18).toNat; omega) | (dsimp only; omega)))
     have hie : t18.toNat = list.length := by omega
     rw [hie] at hmi
     refine x_r [(0, .dec false)] [2, 7, 16, 17, 18, 19] [2, 707] [.ref 2 0, .arr 707, slSample false list, I (list.length : Int), I t18, Bv false] [some (bxPerceptron p), some (.arr 1 wrong.length (fI wrong))] [¬ (t18 < (list.length : Int))] ⟨h2, trivial⟩ ?_
     refine xe_then ?_
     refine x_seq ?_
     refine x_false rfl ?_
     refine x_exit ?_
     refine xe_exit_then ?_
     refine xe_loop_exit ?_
     refine xe_exit_same ?_
     refine xe_then ?_
     refine xR [] [4, 5] [707] [.arr 707, I 0] [some (.arr 1 wrong.length (fI wrong))] [] trivial ?_
     refine x_ret ?_
     refine xe_end (wrong, 0) (show ((wrong, 0) = misR p list) ∧ (True) from ⟨(by first | exact hno.symm | (rw [hye, hmi])), trivial⟩) (trivial) (.tup [.arr 707, I 0]) (by kernel_rfl) (.inr ⟨⟨(fun _ => rfl), rfl, rfl, fun i _ => .inl rfl⟩, ⟨rfl, rfl⟩⟩) (fun _ => rfl) (fun _ => (by simp [tagged, taggedL, tagI]))
    have hno := mis_no h1
    refine x_r [(1, .dec true)] [1, 2, 6, 14] [2] [slSample false list, .ref 2 0, I (cdR p list), Bv true] [some (bxPerceptron p)] [(cdR p list) ≠ 0] ⟨h1, trivial⟩ ?_
    refine xe_then ?_
    refine x_true rfl ?_
    refine xR [] [4, 5] [] [nilA, I (cdR p list)] [] [] trivial ?_
    refine x_ret ?_
    refine xe_ret_then ?_
    refine xe_end (([] : List Int), (cdR p list)) (show ((([] : List Int), (cdR p list)) = misR p list) ∧ (True) from ⟨(by first | exact hno.symm | (rw [hye, hmi])), trivial⟩) (trivial) (.tup [nilA, I (cdR p list)]) (by kernel_rfl) (.inr ⟨⟨rfl, rfl⟩, ⟨rfl, rfl⟩⟩) (fun _ => rfl) (fun _ => (by simp [tagged, taggedL, tagI]))
  obtain ⟨⟨v, c⟩, ⟨hh0, _⟩, hc⟩ := hh
  exact ⟨v, c, hh0, hc⟩


-- spec.MistakesOf
theorem specMistakesOf_ok (p : Perceptron) (list : List Sample) (ok : ∀ y ∈ p.Labels, y.size ≤ 9223372036854775807) (ok2 : ∀ y ∈ list, y.Label.size ≤ 9223372036854775807) : ∃ (v : List Int) (c : Int), ((v, c) = misR p list) ∧ Con Try.prog 26 [agPerceptron p, slSample false list] true (.tup [slI true v, I c]) := by
  have hh : ∃ r : (List Int) × Int, (((r.1, r.2) = misR p list) ∧ (True)) ∧ CallOK Try.prog 26 [agPerceptron p, slSample false list] (lookO []) true (.tup [slI true r.1, I r.2]) (lookO []) := by
    refine fn_okX (Φ := fun r : (List Int) × Int => ((r.1, r.2) = misR p list) ∧ (True)) [] (fun r => []) (fn := Try.f26) (nt := 44) Try.func26 rfl rfl (args := [agPerceptron p, slSample false list]) rfl (allcons (.inl ⟨rfl, by simp [tagged, taggedL, tagLI, tagS]⟩) (allcons (.inl ⟨rfl, tagSample false _⟩) allnil)) (res := fun r => .tup [slI true r.1, I r.2]) ?_
    refine xR [(0, .new 2)] [1, 2] [2] [slSample false list, .ref 2 0] [some (bxPerceptron p)] [] trivial ?_
    refine xR [(1, .call [(false, .ptr false [slS false p.Labels, slLI false p.Weights]), (true, .any)] true (I (cdR p list)))] [1, 2, 6] [2] [slSample false list, .ref 2 0, I (cdR p list)] [some (bxPerceptron p)] [Con Try.prog 63 [.ptr false [slS false p.Labels, slLI false p.Weights], slSample false list] true (I (cdR p list)) ∧ ((false = true → true = true) ∧ AV.idsL [slS false p.Labels, slLI false p.Weights] = [] ∧ ((false = true → false = true) ∧ 1 = 1 ∧ p.Labels.length = p.Labels.length ∧ ∀ i_, i_ < p.Labels.length → (fS p.Labels) i_ = (fS p.Labels) i_ ∨ (AV.idsL ((fS p.Labels) i_) = [] ∧ leL (fun _ => none) false ((fS p.Labels) i_) ((fS p.Labels) i_))) ∧ ((false = true → false = true) ∧ 1 = 1 ∧ p.Weights.length = p.Weights.length ∧ ∀ i_, i_ < p.Weights.length → (fLI false p.Weights) i_ = (fLI false p.Weights) i_ ∨ (AV.idsL ((fLI false p.Weights) i_) = [] ∧ leL (fun _ => none) false ((fLI false p.Weights) i_) ((fLI false p.Weights) i_))) ∧ ([] : List AV) = []) ∧ True] ⟨⟨(l12Code_ok p list ok ok2), ⟨(fun h => by cases h), rfl, ⟨⟨(fun h => by cases h), rfl, rfl, fun i _ => .inl rfl⟩, ⟨⟨(fun h => by cases h), rfl, rfl, fun i _ => .inl rfl⟩, rfl⟩⟩⟩, trivial⟩, trivial⟩ ?_
    refine x_seq ?_
    refine x_seq ?_
    by_cases h1 : (cdR p list) = 0
    ·have hc0 := h1
     have hcd := cd_ok hc0
     have hll := hcd.2.2
     have hpn := okP_n hcd.1
     have hye := mis_yes hc0
     refine x_r [(1, .dec false)] [1, 2, 6, 12] [2] [slSample false list, .ref 2 0, I (cdR p list), Bv false] [some (bxPerceptron p)] [¬ ((cdR p list) ≠ 0)] ⟨(fun hq => hq h1), trivial⟩ ?_
     refine xe_then ?_
     refine x_false rfl ?_
     refine x_skip ?_
     refine xe_then ?_
     refine xR [(0, .new 14)] [1, 2, 7] [2, 14] [slSample false list, .ref 2 0, .arr 14] [some (bxPerceptron p), some (.arr 1 0 (litF [] 1))] [] trivial ?_
     refine x_seq ?_
     refine xR [] [1, 2, 7, 8] [2, 14] [slSample false list, .ref 2 0, .arr 14, I 0] [some (bxPerceptron p), some (.arr 1 0 (litF [] 1))] [] trivial ?_
     refine x_block ?_
     refine x_weak [] (T := [(1, slSample false list), (2, .ref 2 0), (7, .arr 14), (8, I 0)]) (O := [(2, bxPerceptron p), (14, .arr 1 (([] : List Int).length) (fI ([] : List Int)))]) rfl (⟨.inl rfl, .inl rfl, .inl rfl, .inl rfl, trivial⟩) (⟨.inl rfl, .inr ⟨rfl, (by first | rfl | (simp; done) | (simp; omega) | omega), fun i_ hi_ => absurd hi_ (Nat.not_lt_zero _)⟩, trivial⟩) ?_
     refine x_loop (X := (List Int) × Int) (fun x => mkS [(1, slSample false list), (2, .ref 2 0), (7, .arr 14), (8, I x.2)] [(2, bxPerceptron p), (14, .arr 1 x.1.length (fI x.1))]) (fun x => (0 ≤ x.2 ∧ x.2 ≤ (list.length : Int)) ∧ (x.1 = misL p list x.2.toNat) ∧ ((x.1.length : Int) ≤ x.2) ∧ True) (fun x => ((list.length : Int) - x.2).toNat) (([] : List Int), 0) rfl (show (0 ≤ (0 : Int) ∧ (0 : Int) ≤ (list.length : Int)) ∧ (([] : List Int) = misL p list (0 : Int).toNat) ∧ ((([] : List Int).length : Int) ≤ (0 : Int)) ∧ True from ⟨(by omega), (by rfl), (by (simp; try omega)), trivial⟩) (fun x hI => ?_)
     obtain ⟨out, i⟩ := x
     obtain ⟨hi0, hmi, hml, _⟩ : (0 ≤ i ∧ i ≤ (list.length : Int)) ∧ (out = misL p list i.toNat) ∧ ((out.length : Int) ≤ i) ∧ True := hI
     show XW _ _ _ _ (mkS [(1, slSample false list), (2, .ref 2 0), (7, .arr 14), (8, I i)] [(2, bxPerceptron p), (14, .arr 1 out.length (fI out))]) _ _
     refine x_seq ?_
     refine x_seq ?_
     by_cases h2 : i < (list.length : Int)
     ·have hi : i.toNat < list.length := by omega
      have hsm := hcd.2.1 i.toNat hi
      refine x_r [(3, .dec true)] [1, 2, 7, 8, 18] [2, 14] [slSample false list, .ref 2 0, .arr 14, I i, Bv true] [some (bxPerceptron p), some (.arr 1 out.length (fI out))] [i < (list.length : Int)] ⟨h2, trivial⟩ ?_
      refine xe_then ?_
      refine x_true rfl ?_
      refine x_skip ?_
      refine xe_then ?_
      refine x_seq ?_
      refine x_block ?_
      refine x_seq ?_
      obtain ⟨v_1, hx1_0, hc1⟩ := l12Input_ok ((at_ list i.toNat).Feats) hsm.2.2
      have hinp := inp_ok (hsm.2.2) hx1_0
      have hiv := hx1_0
      obtain ⟨v_2, hx2_0, hc2⟩ := l12Scores_ok p v_1 hcd.1 hinp
      have hsv := hx2_0
      have hsl : v_2.length = p.Weights.length := by rw [hsv, scR_len]
      rw [hiv] at hsv
      have hbi := bstI_in (l := v_2) (by omega)
      by_cases h3 : (at_ p.Labels ((bstI v_2).toNat)) = ((at_ list i.toNat).Label)
      ·have hm1 := misL_1 (p := p) (list := list) hi0.1
       rw [← hsv, if_pos h3, ← hmi] at hm1
       refine x_r [(7, .call [(true, .any)] true (slI true v_1)), (8, .call [(false, .ptr false [slS false p.Labels, slLI false p.Weights]), (false, slI false v_1)] true (slI true v_2)), (9, .call [(false, slI false v_2)] true (I (bstI v_2))), (17, .dec false)] [1, 2, 7, 8, 38] [2, 14] [slSample false list, .ref 2 0, .arr 14, I i, Bv false] [some (bxPerceptron p), some (.arr 1 out.length (fI out))] [(0 : Int) ≤ i ∧ i < (list.length : Int), Con Try.prog 41 [slFeat false ((at_ list i.toNat).Feats)] true (slI true v_1) ∧ True, Con Try.prog 40 [.ptr false [slS false p.Labels, slLI false p.Weights], slI false v_1] true (slI true v_2) ∧ ((false = true → true = true) ∧ AV.idsL [slS false p.Labels, slLI false p.Weights] = [] ∧ ((false = true → false = true) ∧ 1 = 1 ∧ p.Labels.length = p.Labels.length ∧ ∀ i_, i_ < p.Labels.length → (fS p.Labels) i_ = (fS p.Labels) i_ ∨ (AV.idsL ((fS p.Labels) i_) = [] ∧ leL (fun _ => none) false ((fS p.Labels) i_) ((fS p.Labels) i_))) ∧ ((false = true → false = true) ∧ 1 = 1 ∧ p.Weights.length = p.Weights.length ∧ ∀ i_, i_ < p.Weights.length → (fLI false p.Weights) i_ = (fLI false p.Weights) i_ ∨ (AV.idsL ((fLI false p.Weights) i_) = [] ∧ leL (fun _ => none) false ((fLI false p.Weights) i_) ((fLI false p.Weights) i_))) ∧ ([] : List AV) = []) ∧ ((false = true → true = true) ∧ 1 = 1 ∧ v_1.length = v_1.length ∧ ∀ i_, i_ < v_1.length → (fI v_1) i_ = (fI v_1) i_ ∨ (AV.idsL ((fI v_1) i_) = [] ∧ leL (fun _ => none) false ((fI v_1) i_) ((fI v_1) i_))) ∧ True, Con Try.prog 46 [slI false v_2] true (I (bstI v_2)) ∧ ((false = true → true = true) ∧ 1 = 1 ∧ v_2.length = v_2.length ∧ ∀ i_, i_ < v_2.length → (fI v_2) i_ = (fI v_2) i_ ∨ (AV.idsL ((fI v_2) i_) = [] ∧ leL (fun _ => none) false ((fI v_2) i_) ((fI v_2) i_))) ∧ True, (0 : Int) ≤ (bstI v_2) ∧ (bstI v_2) < (p.Labels.length : Int), (0 : Int) ≤ i ∧ i < (list.length : Int), ¬ ((at_ p.Labels ((bstI v_2).toNat)) ≠ ((at_ list i.toNat).Label))] ⟨⟨(by omega), (by omega)⟩, ⟨hc1, trivial⟩, ⟨hc2, ⟨(fun h => by cases h), rfl, ⟨⟨(fun h => by cases h), rfl, rfl, fun i _ => .inl rfl⟩, ⟨⟨(fun h => by cases h), rfl, rfl, fun i _ => .inl rfl⟩, rfl⟩⟩⟩, ⟨(fun h => by cases h), rfl, rfl, fun i _ => .inl rfl⟩, trivial⟩, ⟨(l12Best_ok v_2 (by omega)), ⟨(fun h => by cases h), rfl, rfl, fun i _ => .inl rfl⟩, trivial⟩, ⟨(by omega), (by omega)⟩, ⟨(by omega), (by omega)⟩, (fun hq => hq h3), trivial⟩ ?_
       refine xe_then ?_
       refine x_false rfl ?_
       refine x_skip ?_
       refine xe_block 1 ?_
       refine xe_then ?_
       refine x_r [] [1, 2, 7, 8] [2, 14] [slSample false list, .ref 2 0, .arr 14, I (i + 1)] [some (bxPerceptron p), some (.arr 1 out.length (fI out))] [inR .i64 (i + 1)] ⟨(inR_i64 (by omega) (by omega)), trivial⟩ ?_
       exact xe_again (out, (i + 1)) rfl (show (0 ≤ (i + 1) ∧ (i + 1) ≤ (list.length : Int)) ∧ (out = misL p list (i + 1).toNat) ∧ ((out.length : Int) ≤ (i + 1)) ∧ True from ⟨(by omega), (by exact hm1.symm), (by first | omega | (simp; omega)), trivial⟩) (by first | (show (((list.length : Int) - (i + 1)).toNat : Nat) < ((list.length : Int) - i).toNat; omega) | (dsimp only; omega))
      have hm1 := misL_1 (p := p) (list := list) hi0.1
      rw [← hsv, if_neg h3, ← hmi] at hm1
      refine x_r [(7, .call [(true, .any)] true (slI true v_1)), (8, .call [(false, .ptr false [slS false p.Labels, slLI false p.Weights]), (false, slI false v_1)] true (slI true v_2)), (9, .call [(false, slI false v_2)] true (I (bstI v_2))), (17, .dec true)] [1, 2, 7, 8, 38] [2, 14] [slSample false list, .ref 2 0, .arr 14, I i, Bv true] [some (bxPerceptron p), some (.arr 1 out.length (fI out))] [(0 : Int) ≤ i ∧ i < (list.length : Int), Con Try.prog 41 [slFeat false ((at_ list i.toNat).Feats)] true (slI true v_1) ∧ True, Con Try.prog 40 [.ptr false [slS false p.Labels, slLI false p.Weights], slI false v_1] true (slI true v_2) ∧ ((false = true → true = true) ∧ AV.idsL [slS false p.Labels, slLI false p.Weights] = [] ∧ ((false = true → false = true) ∧ 1 = 1 ∧ p.Labels.length = p.Labels.length ∧ ∀ i_, i_ < p.Labels.length → (fS p.Labels) i_ = (fS p.Labels) i_ ∨ (AV.idsL ((fS p.Labels) i_) = [] ∧ leL (fun _ => none) false ((fS p.Labels) i_) ((fS p.Labels) i_))) ∧ ((false = true → false = true) ∧ 1 = 1 ∧ p.Weights.length = p.Weights.length ∧ ∀ i_, i_ < p.Weights.length → (fLI false p.Weights) i_ = (fLI false p.Weights) i_ ∨ (AV.idsL ((fLI false p.Weights) i_) = [] ∧ leL (fun _ => none) false ((fLI false p.Weights) i_) ((fLI false p.Weights) i_))) ∧ ([] : List AV) = []) ∧ ((false = true → true = true) ∧ 1 = 1 ∧ v_1.length = v_1.length ∧ ∀ i_, i_ < v_1.length → (fI v_1) i_ = (fI v_1) i_ ∨ (AV.idsL ((fI v_1) i_) = [] ∧ leL (fun _ => none) false ((fI v_1) i_) ((fI v_1) i_))) ∧ True, Con Try.prog 46 [slI false v_2] true (I (bstI v_2)) ∧ ((false = true → true = true) ∧ 1 = 1 ∧ v_2.length = v_2.length ∧ ∀ i_, i_ < v_2.length → (fI v_2) i_ = (fI v_2) i_ ∨ (AV.idsL ((fI v_2) i_) = [] ∧ leL (fun _ => none) false ((fI v_2) i_) ((fI v_2) i_))) ∧ True, (0 : Int) ≤ (bstI v_2) ∧ (bstI v_2) < (p.Labels.length : Int), (0 : Int) ≤ i ∧ i < (list.length : Int), (at_ p.Labels ((bstI v_2).toNat)) ≠ ((at_ list i.toNat).Label)] ⟨⟨(by omega), (by omega)⟩, ⟨hc1, trivial⟩, ⟨hc2, ⟨(fun h => by cases h), rfl, ⟨⟨(fun h => by cases h), rfl, rfl, fun i _ => .inl rfl⟩, ⟨⟨(fun h => by cases h), rfl, rfl, fun i _ => .inl rfl⟩, rfl⟩⟩⟩, ⟨(fun h => by cases h), rfl, rfl, fun i _ => .inl rfl⟩, trivial⟩, ⟨(l12Best_ok v_2 (by omega)), ⟨(fun h => by cases h), rfl, rfl, fun i _ => .inl rfl⟩, trivial⟩, ⟨(by omega), (by omega)⟩, ⟨(by omega), (by omega)⟩, h3, trivial⟩ ?_
      refine xe_then ?_
      refine x_true rfl ?_
      refine x_r [(2, .new 41), (3, .new 42)] [1, 2, 7, 8] [2, 42] [slSample false list, .ref 2 0, .arr 42, I i] [some (bxPerceptron p), some (.arr 1 (out.length + 1) (catF out.length (fI out) (litF [I i] 1)))] [(out.length + 1) * 8 ≤ 140737488355328] ⟨(by omega), trivial⟩ ?_
      refine xe_block 1 ?_
      refine xe_then ?_
      refine x_r [] [1, 2, 7, 8] [2, 42] [slSample false list, .ref 2 0, .arr 42, I (i + 1)] [some (bxPerceptron p), some (.arr 1 (out.length + 1) (catF out.length (fI out) (litF [I i] 1)))] [inR .i64 (i + 1)] ⟨(inR_i64 (by omega) (by omega)), trivial⟩ ?_
      refine xe_weak [(14, 42)] (T := [(1, slSample false list), (2, .ref 2 0), (7, .arr 14), (8, I (i + 1))]) (O := [(2, bxPerceptron p), (14, .arr 1 ((out ++ [i]).length) (fI (out ++ [i])))]) rfl (⟨.inl rfl, .inl rfl, .inl rfl, .inl rfl, trivial⟩) (⟨.inl rfl, .inr ⟨rfl, (by first | rfl | (simp; done) | (simp; omega) | omega), fun i_ hi_ => .inl (cat_snoc (enc := cI) (xs := out) rfl i_ hi_)⟩, trivial⟩) (xe_again ((out ++ [i]), (i + 1)) rfl (show (0 ≤ (i + 1) ∧ (i + 1) ≤ (list.length : Int)) ∧ ((out ++ [i]) = misL p list (i + 1).toNat) ∧ (((out ++ [i]).length : Int) ≤ (i + 1)) ∧ True from ⟨(by omega), (by exact hm1.symm), (by first | omega | (simp; omega)), trivial⟩) (by first | (show (((list.length : Int) - (i + 1)).toNat : Nat) < ((list.length : Int) - i).toNat; omega) | (dsimp only; omega)))
     have hie : i.toNat = list.length := by omega
     rw [hie] at hmi
     refine x_r [(3, .dec false)] [1, 2, 7, 8, 18] [2, 14] [slSample false list, .ref 2 0, .arr 14, I i, Bv false] [some (bxPerceptron p), some (.arr 1 out.length (fI out))] [¬ (i < (list.length : Int))] ⟨h2, trivial⟩ ?_
     refine xe_then ?_
     refine x_false rfl ?_
     refine x_exit ?_
     refine xe_exit_then ?_
     refine xe_loop_exit ?_
     refine xe_exit_same ?_
     refine xe_then ?_
     refine xR [] [4, 5] [14] [.arr 14, I 0] [some (.arr 1 out.length (fI out))] [] trivial ?_
     refine x_ret ?_
     refine xe_end (out, 0) (show ((out, 0) = misR p list) ∧ (True) from ⟨(by first | exact hno.symm | (rw [hye, hmi])), trivial⟩) (trivial) (.tup [.arr 14, I 0]) (by kernel_rfl) (.inr ⟨⟨(fun _ => rfl), rfl, rfl, fun i _ => .inl rfl⟩, ⟨rfl, rfl⟩⟩) (fun _ => rfl) (fun _ => (by simp [tagged, taggedL, tagI]))
    have hno := mis_no h1
    refine x_r [(1, .dec true)] [1, 2, 6, 12] [2] [slSample false list, .ref 2 0, I (cdR p list), Bv true] [some (bxPerceptron p)] [(cdR p list) ≠ 0] ⟨h1, trivial⟩ ?_
    refine xe_then ?_
    refine x_true rfl ?_
    refine xR [] [4, 5] [] [nilA, I (cdR p list)] [] [] trivial ?_
    refine x_ret ?_
    refine xe_ret_then ?_
    refine xe_end (([] : List Int), (cdR p list)) (show ((([] : List Int), (cdR p list)) = misR p list) ∧ (True) from ⟨(by first | exact hno.symm | (rw [hye, hmi])), trivial⟩) (trivial) (.tup [nilA, I (cdR p list)]) (by kernel_rfl) (.inr ⟨⟨rfl, rfl⟩, ⟨rfl, rfl⟩⟩) (fun _ => rfl) (fun _ => (by simp [tagged, taggedL, tagI]))
  obtain ⟨⟨v, c⟩, ⟨hh0, _⟩, hc⟩ := hh
  exact ⟨v, c, hh0, hc⟩


-- spec.l00Same
theorem l00Same_ok (a : List Int) (b : List Int) : Con Try.prog 53 [slI false a, slI false b] true (Bv (sameL a b)) := by
  refine fn_ok (fn := Try.f53) (nt := 26) Try.func53 rfl rfl rfl rfl (by simp [taggedL, tagged, tagI]) fun B hB => ?_
  refine aw_lens (x := slI false a) 0 rfl (fun len_a => ?_)
  simp [LenOK, LenL, cI, fI, slI] at len_a
  refine aw_lens (x := slI false b) 1 rfl (fun len_b => ?_)
  simp [LenOK, LenL, cI, fI, slI] at len_b
  refine aR [] [0, 1] [] [slI false a, slI false b] [] [] hB trivial ?_
  refine aw_seq ?_
  refine aw_seq ?_
  by_cases h1 : (a.length : Int) = (b.length : Int)
  ·have hlen : a.length = b.length := by omega
   refine aw_r [(4, .dec false)] [0, 1, 10] [] [slI false a, slI false b, Bv false] [] [¬ ((a.length : Int) ≠ (b.length : Int))] hB ⟨(fun hq => hq h1), trivial⟩ ?_
   refine ae_then ?_
   refine aw_false rfl ?_
   refine aw_skip ?_
   refine ae_then ?_
   refine aw_seq ?_
   refine aR [] [0, 1, 5] [] [slI false a, slI false b, I 0] [] [] hB trivial ?_
   refine aw_block ?_
   refine aw_loop (fun gn gσ => ∃ (i : Int), gn = ((a.length : Int) - i).toNat ∧ (0 ≤ i ∧ i ≤ (a.length : Int)) ∧ (∀ j : Nat, (j : Int) < i → decide (at_ a j = at_ b j) = true) ∧ gσ = mkS [(0, slI false a), (1, slI false b), (5, I i)] []) (((a.length : Int) - 0).toNat) ⟨0, rfl, (by omega), (by intro j hj; omega), rfl⟩ (fun gn gσ hI => ?_)
   obtain ⟨i, rfl, hi0, hall0, rfl⟩ := hI
   refine aw_seq ?_
   refine aw_seq ?_
   by_cases h2 : i < (a.length : Int)
   ·have hi : i.toNat < a.length := by omega
    refine aw_r [(3, .dec true)] [0, 1, 5, 14] [] [slI false a, slI false b, I i, Bv true] [] [i < (a.length : Int)] hB ⟨h2, trivial⟩ ?_
    refine ae_then ?_
    refine aw_true rfl ?_
    refine aw_skip ?_
    refine ae_then ?_
    refine aw_seq ?_
    refine aw_block ?_
    refine aw_seq ?_
    by_cases h3 : (at_ a i.toNat) = (at_ b i.toNat)
    ·have hok : decide (at_ a i.toNat = at_ b i.toNat) = true := decide_eq_true h3
     refine aw_r [(8, .dec false)] [0, 1, 5, 25] [] [slI false a, slI false b, I i, Bv false] [] [(0 : Int) ≤ i ∧ i < (a.length : Int), (0 : Int) ≤ i ∧ i < (b.length : Int), ¬ ((at_ a i.toNat) ≠ (at_ b i.toNat))] hB ⟨⟨(by omega), (by omega)⟩, ⟨(by omega), (by omega)⟩, (fun hq => hq h3), trivial⟩ ?_
     refine ae_then ?_
     refine aw_false rfl ?_
     refine aw_skip ?_
     refine ae_block 1 ?_
     refine ae_then ?_
     refine aw_r [] [0, 1, 5] [] [slI false a, slI false b, I (i + 1)] [] [inR .i64 (i + 1)] hB ⟨(inR_i64 (by omega) (by omega)), trivial⟩ ?_
     exact ae_again _ (by omega) ⟨(i + 1), rfl, (by omega), (by intro j hj; by_cases ej : j = i.toNat; (subst ej; first | assumption | exact hok); exact hall0 j (by omega)), rfl⟩
    have hall : allN a.length (fun j => decide (at_ a j = at_ b j)) = false := allN_not hi (decide_eq_false h3)
    refine aw_r [(8, .dec true)] [0, 1, 5, 25] [] [slI false a, slI false b, I i, Bv true] [] [(0 : Int) ≤ i ∧ i < (a.length : Int), (0 : Int) ≤ i ∧ i < (b.length : Int), (at_ a i.toNat) ≠ (at_ b i.toNat)] hB ⟨⟨(by omega), (by omega)⟩, ⟨(by omega), (by omega)⟩, h3, trivial⟩ ?_
    refine ae_then ?_
    refine aw_true rfl ?_
    refine aR [] [4] [] [Bv false] [] [] hB trivial ?_
    refine aw_ret ?_
    refine ae_ret_block (ae_ret_then (ae_ret_then (ae_ret_block (ae_ret_then ?_))))
    refine ae_ret hB (Bv false) (by kernel_rfl) (.inl (by first | (simp [sameL, hlen]; done) | (unfold sameL; rw [hall]; simp [hlen]))) rfl (fun _ => trivial)
   have hall : allN a.length (fun j => decide (at_ a j = at_ b j)) = true := allN_at (fun j hj => hall0 j (by omega))
   refine aw_r [(3, .dec false)] [0, 1, 5, 14] [] [slI false a, slI false b, I i, Bv false] [] [¬ (i < (a.length : Int))] hB ⟨h2, trivial⟩ ?_
   refine ae_then ?_
   refine aw_false rfl ?_
   refine aw_exit ?_
   refine ae_exit_then ?_
   refine ae_exit_then ?_
   refine ae_exit_same ?_
   refine ae_then ?_
   refine aR [] [4] [] [Bv true] [] [] hB trivial ?_
   refine aw_ret ?_
   refine ae_ret hB (Bv true) (by kernel_rfl) (.inl (by first | (simp [sameL, hlen]; done) | (unfold sameL; rw [hall]; simp [hlen]))) rfl (fun _ => trivial)
  have hlen : ¬ a.length = b.length := by omega
  refine aw_r [(4, .dec true)] [0, 1, 10] [] [slI false a, slI false b, Bv true] [] [(a.length : Int) ≠ (b.length : Int)] hB ⟨h1, trivial⟩ ?_
  refine ae_then ?_
  refine aw_true rfl ?_
  refine aR [] [4] [] [Bv false] [] [] hB trivial ?_
  refine aw_ret ?_
  refine ae_ret_then ?_
  refine ae_ret hB (Bv false) (by kernel_rfl) (.inl (by first | (simp [sameL, hlen]; done) | (unfold sameL; rw [hall]; simp [hlen]))) rfl (fun _ => trivial)


-- spec.SamePerceptron
theorem specSamePerceptron_ok (a : Perceptron) (b : Perceptron) : Con Try.prog 16 [agPerceptron a, agPerceptron b] true (Bv (sameP a b)) := by
  refine fn_ok (fn := Try.f16) (nt := 60) Try.func16 rfl rfl rfl rfl (by simp [taggedL, tagged, tagLI, tagS]) fun B hB => ?_
  refine aw_lens (x := agPerceptron a) 0 rfl (fun len_a => ?_)
  simp [LenOK, LenL, cI, cLI, cS, fI, fLI, fS, slI, slLI, slS] at len_a
  refine aw_lens (x := agPerceptron b) 1 rfl (fun len_b => ?_)
  simp [LenOK, LenL, cI, cLI, cS, fI, fLI, fS, slI, slLI, slS] at len_b
  refine aR [(0, .new 2), (1, .new 3)] [2, 3] [2, 3] [.ref 2 0, .ref 3 0] [some (bxPerceptron a), some (bxPerceptron b)] [] hB trivial ?_
  refine aw_seq ?_
  refine aw_seq ?_
  by_cases h1 : (a.Labels.length : Int) = (b.Labels.length : Int)
  ·have hl1 : a.Labels.length = b.Labels.length := by omega
   by_cases h2 : (a.Weights.length : Int) = (b.Weights.length : Int)
   ·have hl2 : a.Weights.length = b.Weights.length := by omega
    refine aw_r [(6, .dec false), (14, .dec false)] [2, 3, 22] [2, 3] [.ref 2 0, .ref 3 0, Bv false] [some (bxPerceptron a), some (bxPerceptron b)] [¬ ((a.Labels.length : Int) ≠ (b.Labels.length : Int)), ¬ ((a.Weights.length : Int) ≠ (b.Weights.length : Int))] hB ⟨(fun hq => hq h1), (fun hq => hq h2), trivial⟩ ?_
    refine ae_then ?_
    refine aw_false rfl ?_
    refine aw_skip ?_
    refine ae_then ?_
    refine aw_seq ?_
    refine aR [] [2, 3, 5] [2, 3] [.ref 2 0, .ref 3 0, I 0] [some (bxPerceptron a), some (bxPerceptron b)] [] hB trivial ?_
    refine aw_block ?_
    refine aw_loop (fun gn gσ => ∃ (i : Int), gn = ((a.Labels.length : Int) - i).toNat ∧ (0 ≤ i ∧ i ≤ (a.Labels.length : Int)) ∧ (∀ j : Nat, (j : Int) < i → decide (at_ a.Labels j = at_ b.Labels j) = true) ∧ gσ = mkS [(2, .ref 2 0), (3, .ref 3 0), (5, I i)] [(2, bxPerceptron a), (3, bxPerceptron b)]) (((a.Labels.length : Int) - 0).toNat) ⟨0, rfl, (by omega), (by intro j hj; omega), rfl⟩ (fun gn gσ hI => ?_)
    obtain ⟨i, rfl, hi0, hall0, rfl⟩ := hI
    refine aw_seq ?_
    refine aw_seq ?_
    by_cases h3 : i < (a.Labels.length : Int)
    ·have hi : i.toNat < a.Labels.length := by omega
     refine aw_r [(4, .dec true)] [2, 3, 5, 27] [2, 3] [.ref 2 0, .ref 3 0, I i, Bv true] [some (bxPerceptron a), some (bxPerceptron b)] [i < (a.Labels.length : Int)] hB ⟨h3, trivial⟩ ?_
     refine ae_then ?_
     refine aw_true rfl ?_
     refine aw_skip ?_
     refine ae_then ?_
     refine aw_seq ?_
     refine aw_block ?_
     refine aw_seq ?_
     by_cases h4 : (at_ a.Labels i.toNat) = (at_ b.Labels i.toNat)
     ·have hok : decide (at_ a.Labels i.toNat = at_ b.Labels i.toNat) = true := decide_eq_true h4
      refine aw_r [(10, .dec false)] [2, 3, 5, 40] [2, 3] [.ref 2 0, .ref 3 0, I i, Bv false] [some (bxPerceptron a), some (bxPerceptron b)] [(0 : Int) ≤ i ∧ i < (a.Labels.length : Int), (0 : Int) ≤ i ∧ i < (b.Labels.length : Int), ¬ ((at_ a.Labels i.toNat) ≠ (at_ b.Labels i.toNat))] hB ⟨⟨(by omega), (by omega)⟩, ⟨(by omega), (by omega)⟩, (fun hq => hq h4), trivial⟩ ?_
      refine ae_then ?_
      refine aw_false rfl ?_
      refine aw_skip ?_
      refine ae_block 1 ?_
      refine ae_then ?_
      refine aw_r [] [2, 3, 5] [2, 3] [.ref 2 0, .ref 3 0, I (i + 1)] [some (bxPerceptron a), some (bxPerceptron b)] [inR .i64 (i + 1)] hB ⟨(inR_i64 (by omega) (by omega)), trivial⟩ ?_
      exact ae_again _ (by omega) ⟨(i + 1), rfl, (by omega), (by intro j hj; by_cases ej : j = i.toNat; (subst ej; first | assumption | exact hok); exact hall0 j (by omega)), rfl⟩
     have hst : sameP a b = false := by unfold sameP sameL; rw [allN_not hi (decide_eq_false h4)]; simp
     refine aw_r [(10, .dec true)] [2, 3, 5, 40] [2, 3] [.ref 2 0, .ref 3 0, I i, Bv true] [some (bxPerceptron a), some (bxPerceptron b)] [(0 : Int) ≤ i ∧ i < (a.Labels.length : Int), (0 : Int) ≤ i ∧ i < (b.Labels.length : Int), (at_ a.Labels i.toNat) ≠ (at_ b.Labels i.toNat)] hB ⟨⟨(by omega), (by omega)⟩, ⟨(by omega), (by omega)⟩, h4, trivial⟩ ?_
     refine ae_then ?_
     refine aw_true rfl ?_
     refine aR [] [4] [] [Bv false] [] [] hB trivial ?_
     refine aw_ret ?_
     refine ae_ret_block (ae_ret_then (ae_ret_then (ae_ret_block (ae_ret_then ?_))))
     refine ae_ret hB (Bv false) (by kernel_rfl) (.inl (by exact congrArg Bv hst.symm)) rfl (fun _ => trivial)
    have hs1 : sameL a.Labels b.Labels = true := by unfold sameL; rw [decide_eq_true hl1, allN_at (fun j hj => hall0 j (by omega))]; rfl
    refine aw_r [(4, .dec false)] [2, 3, 5, 27] [2, 3] [.ref 2 0, .ref 3 0, I i, Bv false] [some (bxPerceptron a), some (bxPerceptron b)] [¬ (i < (a.Labels.length : Int))] hB ⟨h3, trivial⟩ ?_
    refine ae_then ?_
    refine aw_false rfl ?_
    refine aw_exit ?_
    refine ae_exit_then ?_
    refine ae_exit_then ?_
    refine ae_exit_same ?_
    refine ae_then ?_
    refine aw_seq ?_
    refine aR [] [2, 3, 6] [2, 3] [.ref 2 0, .ref 3 0, I 0] [some (bxPerceptron a), some (bxPerceptron b)] [] hB trivial ?_
    refine aw_block ?_
    refine aw_loop (fun gn gσ => ∃ (i' : Int), gn = ((a.Weights.length : Int) - i').toNat ∧ (0 ≤ i' ∧ i' ≤ (a.Weights.length : Int)) ∧ (∀ j : Nat, (j : Int) < i' → sameL (at_ a.Weights j) (at_ b.Weights j) = true) ∧ gσ = mkS [(2, .ref 2 0), (3, .ref 3 0), (6, I i')] [(2, bxPerceptron a), (3, bxPerceptron b)]) (((a.Weights.length : Int) - 0).toNat) ⟨0, rfl, (by omega), (by intro j hj; omega), rfl⟩ (fun gn gσ hI => ?_)
    obtain ⟨i', rfl, hj0, hall1, rfl⟩ := hI
    refine aw_seq ?_
    refine aw_seq ?_
    by_cases h5 : i' < (a.Weights.length : Int)
    ·have hi2 : i'.toNat < a.Weights.length := by omega
     refine aw_r [(4, .dec true)] [2, 3, 6, 45] [2, 3] [.ref 2 0, .ref 3 0, I i', Bv true] [some (bxPerceptron a), some (bxPerceptron b)] [i' < (a.Weights.length : Int)] hB ⟨h5, trivial⟩ ?_
     refine ae_then ?_
     refine aw_true rfl ?_
     refine aw_skip ?_
     refine ae_then ?_
     refine aw_seq ?_
     refine aw_block ?_
     refine aw_seq ?_
     rcases Bool.eq_false_or_eq_true (sameL (at_ a.Weights i'.toNat) (at_ b.Weights i'.toNat)) with h6 | h6
     ·have hok2 : sameL (at_ a.Weights i'.toNat) (at_ b.Weights i'.toNat) = true := h6
      refine aw_r [(10, .call [(true, .any), (true, .any)] true (Bv true))] [2, 3, 6, 59] [2, 3] [.ref 2 0, .ref 3 0, I i', Bv false] [some (bxPerceptron a), some (bxPerceptron b)] [(0 : Int) ≤ i' ∧ i' < (a.Weights.length : Int), (0 : Int) ≤ i' ∧ i' < (b.Weights.length : Int), Con Try.prog 53 [slI false (at_ a.Weights i'.toNat), slI false (at_ b.Weights i'.toNat)] true (Bv true) ∧ True] hB ⟨⟨(by omega), (by omega)⟩, ⟨(by omega), (by omega)⟩, ⟨(con_bool h6 (l00Same_ok (at_ a.Weights i'.toNat) (at_ b.Weights i'.toNat))), trivial⟩, trivial⟩ ?_
      refine ae_then ?_
      refine aw_false rfl ?_
      refine aw_skip ?_
      refine ae_block 3 ?_
      refine ae_then ?_
      refine aw_r [] [2, 3, 6] [2, 3] [.ref 2 0, .ref 3 0, I (i' + 1)] [some (bxPerceptron a), some (bxPerceptron b)] [inR .i64 (i' + 1)] hB ⟨(inR_i64 (by omega) (by omega)), trivial⟩ ?_
      exact ae_again _ (by omega) ⟨(i' + 1), rfl, (by omega), (by intro j hj; by_cases ej : j = i'.toNat; (subst ej; exact hok2); exact hall1 j (by omega)), rfl⟩
     have hst : sameP a b = false := by unfold sameP; rw [allN_not hi2 (by simpa using h6)]; simp
     refine aw_r [(10, .call [(true, .any), (true, .any)] true (Bv false))] [2, 3, 6, 59] [2, 3] [.ref 2 0, .ref 3 0, I i', Bv true] [some (bxPerceptron a), some (bxPerceptron b)] [(0 : Int) ≤ i' ∧ i' < (a.Weights.length : Int), (0 : Int) ≤ i' ∧ i' < (b.Weights.length : Int), Con Try.prog 53 [slI false (at_ a.Weights i'.toNat), slI false (at_ b.Weights i'.toNat)] true (Bv false) ∧ True] hB ⟨⟨(by omega), (by omega)⟩, ⟨(by omega), (by omega)⟩, ⟨(con_bool h6 (l00Same_ok (at_ a.Weights i'.toNat) (at_ b.Weights i'.toNat))), trivial⟩, trivial⟩ ?_
     refine ae_then ?_
     refine aw_true rfl ?_
     refine aR [] [4] [] [Bv false] [] [] hB trivial ?_
     refine aw_ret ?_
     refine ae_ret_block (ae_ret_then (ae_ret_then (ae_ret_block (ae_ret_then ?_))))
     refine ae_ret hB (Bv false) (by kernel_rfl) (.inl (by exact congrArg Bv hst.symm)) rfl (fun _ => trivial)
    have hst : sameP a b = true := by unfold sameP; rw [hs1, decide_eq_true hl2, allN_at (fun j hj => hall1 j (by omega))]; rfl
    refine aw_r [(4, .dec false)] [2, 3, 6, 45] [2, 3] [.ref 2 0, .ref 3 0, I i', Bv false] [some (bxPerceptron a), some (bxPerceptron b)] [¬ (i' < (a.Weights.length : Int))] hB ⟨h5, trivial⟩ ?_
    refine ae_then ?_
    refine aw_false rfl ?_
    refine aw_exit ?_
    refine ae_exit_then ?_
    refine ae_exit_then ?_
    refine ae_exit_same ?_
    refine ae_then ?_
    refine aR [] [4] [] [Bv true] [] [] hB trivial ?_
    refine aw_ret ?_
    refine ae_ret hB (Bv true) (by kernel_rfl) (.inl (by exact congrArg Bv hst.symm)) rfl (fun _ => trivial)
   have hl2 : ¬ a.Weights.length = b.Weights.length := by omega
   have hst : sameP a b = false := by unfold sameP; rw [decide_eq_false hl2]; simp
   refine aw_r [(6, .dec false), (14, .dec true)] [2, 3, 22] [2, 3] [.ref 2 0, .ref 3 0, Bv true] [some (bxPerceptron a), some (bxPerceptron b)] [¬ ((a.Labels.length : Int) ≠ (b.Labels.length : Int)), (a.Weights.length : Int) ≠ (b.Weights.length : Int)] hB ⟨(fun hq => hq h1), h2, trivial⟩ ?_
   refine ae_then ?_
   refine aw_true rfl ?_
   refine aR [] [4] [] [Bv false] [] [] hB trivial ?_
   refine aw_ret ?_
   refine ae_ret_then ?_
   refine ae_ret hB (Bv false) (by kernel_rfl) (.inl (by exact congrArg Bv hst.symm)) rfl (fun _ => trivial)
  have hl1 : ¬ a.Labels.length = b.Labels.length := by omega
  have hst : sameP a b = false := by unfold sameP sameL; rw [decide_eq_false hl1]; rfl
  refine aw_r [(6, .dec true)] [2, 3, 22] [2, 3] [.ref 2 0, .ref 3 0, Bv true] [some (bxPerceptron a), some (bxPerceptron b)] [(a.Labels.length : Int) ≠ (b.Labels.length : Int)] hB ⟨h1, trivial⟩ ?_
  refine ae_then ?_
  refine aw_true rfl ?_
  refine aR [] [4] [] [Bv false] [] [] hB trivial ?_
  refine aw_ret ?_
  refine ae_ret_then ?_
  refine ae_ret hB (Bv false) (by kernel_rfl) (.inl (by exact congrArg Bv hst.symm)) rfl (fun _ => trivial)


-- laws.f6ints
theorem f6ints_ok (a : List Int) (b : List Int) : Con Try.prog 15 [slI false a, slI false b] true (Bv (sameL a b)) := by
  refine fn_ok (fn := Try.f15) (nt := 26) Try.func15 rfl rfl rfl rfl (by simp [taggedL, tagged, tagI]) fun B hB => ?_
  refine aw_lens (x := slI false a) 0 rfl (fun len_a => ?_)
  simp [LenOK, LenL, cI, fI, slI] at len_a
  refine aw_lens (x := slI false b) 1 rfl (fun len_b => ?_)
  simp [LenOK, LenL, cI, fI, slI] at len_b
  refine aR [] [0, 1] [] [slI false a, slI false b] [] [] hB trivial ?_
  refine aw_seq ?_
  refine aw_seq ?_
  by_cases h1 : (a.length : Int) = (b.length : Int)
  ·have hlen : a.length = b.length := by omega
   refine aw_r [(4, .dec false)] [0, 1, 10] [] [slI false a, slI false b, Bv false] [] [¬ ((a.length : Int) ≠ (b.length : Int))] hB ⟨(fun hq => hq h1), trivial⟩ ?_
   refine ae_then ?_
   refine aw_false rfl ?_
   refine aw_skip ?_
   refine ae_then ?_
   refine aw_seq ?_
   refine aR [] [0, 1, 5] [] [slI false a, slI false b, I 0] [] [] hB trivial ?_
   refine aw_block ?_
   refine aw_loop (fun gn gσ => ∃ (i : Int), gn = ((a.length : Int) - i).toNat ∧ (0 ≤ i ∧ i ≤ (a.length : Int)) ∧ (∀ j : Nat, (j : Int) < i → decide (at_ a j = at_ b j) = true) ∧ gσ = mkS [(0, slI false a), (1, slI false b), (5, I i)] []) (((a.length : Int) - 0).toNat) ⟨0, rfl, (by omega), (by intro j hj; omega), rfl⟩ (fun gn gσ hI => ?_)
   obtain ⟨i, rfl, hi0, hall0, rfl⟩ := hI
   refine aw_seq ?_
   refine aw_seq ?_
   by_cases h2 : i < (a.length : Int)
   ·have hi : i.toNat < a.length := by omega
    refine aw_r [(3, .dec true)] [0, 1, 5, 14] [] [slI false a, slI false b, I i, Bv true] [] [i < (a.length : Int)] hB ⟨h2, trivial⟩ ?_
    refine ae_then ?_
    refine aw_true rfl ?_
    refine aw_skip ?_
    refine ae_then ?_
    refine aw_seq ?_
    refine aw_block ?_
    refine aw_seq ?_
    by_cases h3 : (at_ a i.toNat) = (at_ b i.toNat)
    ·have hok : decide (at_ a i.toNat = at_ b i.toNat) = true := decide_eq_true h3
     refine aw_r [(8, .dec false)] [0, 1, 5, 25] [] [slI false a, slI false b, I i, Bv false] [] [(0 : Int) ≤ i ∧ i < (a.length : Int), (0 : Int) ≤ i ∧ i < (b.length : Int), ¬ ((at_ a i.toNat) ≠ (at_ b i.toNat))] hB ⟨⟨(by omega), (by omega)⟩, ⟨(by omega), (by omega)⟩, (fun hq => hq h3), trivial⟩ ?_
     refine ae_then ?_
     refine aw_false rfl ?_
     refine aw_skip ?_
     refine ae_block 1 ?_
     refine ae_then ?_
     refine aw_r [] [0, 1, 5] [] [slI false a, slI false b, I (i + 1)] [] [inR .i64 (i + 1)] hB ⟨(inR_i64 (by omega) (by omega)), trivial⟩ ?_
     exact ae_again _ (by omega) ⟨(i + 1), rfl, (by omega), (by intro j hj; by_cases ej : j = i.toNat; (subst ej; first | assumption | exact hok); exact hall0 j (by omega)), rfl⟩
    have hall : allN a.length (fun j => decide (at_ a j = at_ b j)) = false := allN_not hi (decide_eq_false h3)
    refine aw_r [(8, .dec true)] [0, 1, 5, 25] [] [slI false a, slI false b, I i, Bv true] [] [(0 : Int) ≤ i ∧ i < (a.length : Int), (0 : Int) ≤ i ∧ i < (b.length : Int), (at_ a i.toNat) ≠ (at_ b i.toNat)] hB ⟨⟨(by omega), (by omega)⟩, ⟨(by omega), (by omega)⟩, h3, trivial⟩ ?_
    refine ae_then ?_
    refine aw_true rfl ?_
    refine aR [] [4] [] [Bv false] [] [] hB trivial ?_
    refine aw_ret ?_
    refine ae_ret_block (ae_ret_then (ae_ret_then (ae_ret_block (ae_ret_then ?_))))
    refine ae_ret hB (Bv false) (by kernel_rfl) (.inl (by first | (simp [sameL, hlen]; done) | (unfold sameL; rw [hall]; simp [hlen]))) rfl (fun _ => trivial)
   have hall : allN a.length (fun j => decide (at_ a j = at_ b j)) = true := allN_at (fun j hj => hall0 j (by omega))
   refine aw_r [(3, .dec false)] [0, 1, 5, 14] [] [slI false a, slI false b, I i, Bv false] [] [¬ (i < (a.length : Int))] hB ⟨h2, trivial⟩ ?_
   refine ae_then ?_
   refine aw_false rfl ?_
   refine aw_exit ?_
   refine ae_exit_then ?_
   refine ae_exit_then ?_
   refine ae_exit_same ?_
   refine ae_then ?_
   refine aR [] [4] [] [Bv true] [] [] hB trivial ?_
   refine aw_ret ?_
   refine ae_ret hB (Bv true) (by kernel_rfl) (.inl (by first | (simp [sameL, hlen]; done) | (unfold sameL; rw [hall]; simp [hlen]))) rfl (fun _ => trivial)
  have hlen : ¬ a.length = b.length := by omega
  refine aw_r [(4, .dec true)] [0, 1, 10] [] [slI false a, slI false b, Bv true] [] [(a.length : Int) ≠ (b.length : Int)] hB ⟨h1, trivial⟩ ?_
  refine ae_then ?_
  refine aw_true rfl ?_
  refine aR [] [4] [] [Bv false] [] [] hB trivial ?_
  refine aw_ret ?_
  refine ae_ret_then ?_
  refine ae_ret hB (Bv false) (by kernel_rfl) (.inl (by first | (simp [sameL, hlen]; done) | (unfold sameL; rw [hall]; simp [hlen]))) rfl (fun _ => trivial)


-- impl.TrainOne
theorem implTrainOne_ok (p : Perceptron) (s : Sample) (ok : ∀ y ∈ p.Labels, y.size ≤ 9223372036854775807) (hz : s.Label.size ≤ 9223372036854775807) : ∃ (v : Perceptron) (ch : Bool) (c : Int), (v = (tepR p [s]).1 ∧ ch = decide (0 < (tepR p [s]).2.1) ∧ c = (tepR p [s]).2.2) ∧ Con Try.prog 27 [agPerceptron p, agSample s] true (.tup [agPerceptronT v, Bv ch, I c]) := by
  have hh : ∃ r : Perceptron × Bool × Int, ((r.1 = (tepR p [s]).1 ∧ r.2.1 = decide (0 < (tepR p [s]).2.1) ∧ r.2.2 = (tepR p [s]).2.2) ∧ (True)) ∧ CallOK Try.prog 27 [agPerceptron p, agSample s] (lookO []) true (.tup [agPerceptronT r.1, Bv r.2.1, I r.2.2]) (lookO []) := by
    refine fn_okX (Φ := fun r : Perceptron × Bool × Int => (r.1 = (tepR p [s]).1 ∧ r.2.1 = decide (0 < (tepR p [s]).2.1) ∧ r.2.2 = (tepR p [s]).2.2) ∧ (True)) [] (fun r => []) (fn := Try.f27) (nt := 22) Try.func27 rfl rfl (args := [agPerceptron p, agSample s]) rfl (allcons (.inl ⟨rfl, by simp [tagged, taggedL, tagLI, tagS]⟩) (allcons (.inl ⟨rfl, by simp [tagged, taggedL, tagFeat]⟩) allnil)) (res := fun r => .tup [agPerceptronT r.1, Bv r.2.1, I r.2.2]) ?_
    refine xR [(0, .new 2), (1, .new 3), (2, .new 4)] [2, 3, 4] [2, 3, 4] [.ref 2 0, .ref 3 0, .ref 4 0] [some (bxPerceptron p), some (bxSample s), some (.box [nilA, nilA])] [] trivial ?_
    refine x_seq ?_
    obtain ⟨v_1, n_1, c_1, hx1_0, hc1⟩ := implTrainEpoch_ok p ([s]) ok (fun y hy => by simp only [List.mem_singleton] at hy; rw [hy]; exact hz)
    have hte := hx1_0
    refine x_r [(2, .new 13), (3, .call [(true, .any), (false, slSample false ([s]))] true (.tup [agPerceptronT v_1, I n_1, I c_1])), (8, .new 7)] [4, 7, 8, 9] [4, 7] [.ref 4 0, .ref 7 0, I n_1, I c_1] [some (.box [nilA, nilA]), some (bxPerceptronT v_1)] [Con Try.prog 23 [agPerceptron p, slSample false ([s])] true (.tup [agPerceptronT v_1, I n_1, I c_1]) ∧ ((false = true → true = true) ∧ 2 = 2 ∧ 1 = (([s]).length) ∧ ∀ i_, i_ < (([s]).length) → (litF [Sv s.Label, slFeat false s.Feats] 2) i_ = (fSample false ([s])) i_ ∨ (AV.idsL ((fSample false ([s])) i_) = [] ∧ leL (fun _ => none) false ((litF [Sv s.Label, slFeat false s.Feats] 2) i_) ((fSample false ([s])) i_))) ∧ True] ⟨⟨hc1, ⟨(fun h => by cases h), rfl, (by first | rfl | (simp; done) | (simp; omega) | omega), fun i_ hi_ => .inl (match i_, hi_ with | 0, _ => rfl | (i + 1), h => absurd h (by simp))⟩, trivial⟩, trivial⟩ ?_
    refine xe_then ?_
    refine xR [] [4, 5, 6] [4] [.ref 4 0, Bv (decide (0 < n_1)), I c_1] [some (bxPerceptronT v_1)] [] trivial ?_
    refine x_ret ?_
    refine xe_end (v_1, decide (0 < n_1), c_1) (show (v_1 = (tepR p [s]).1 ∧ (decide (0 < n_1)) = decide (0 < (tepR p [s]).2.1) ∧ c_1 = (tepR p [s]).2.2) ∧ (True) from ⟨(by rw [← hte]; exact ⟨rfl, rfl, rfl⟩), trivial⟩) (trivial) (.tup [agPerceptronT v_1, Bv (decide (0 < n_1)), I c_1]) (by kernel_rfl) (.inl rfl) (fun _ => rfl) (fun _ => (by simp [tagged, taggedL, tagLI, tagS]))
  obtain ⟨⟨v, ch, c⟩, ⟨hh0, _⟩, hc⟩ := hh
  exact ⟨v, ch, c, hh0, hc⟩


theorem two_eq {α β : Type} {a c : α} {b d : β} {z : α × β} (h1 : (a, b) = z) (h2 : (c, d) = z) : a = c ∧ b = d := by
  subst h1; exact ⟨(congrArg Prod.fst h2).symm, (congrArg Prod.snd h2).symm⟩
theorem three_eq {α β γ : Type} {a c : α} {a' c' : β} {b d : γ} {z : (α × β) × γ} (h1 : ((a, a'), b) = z) (h2 : ((c, c'), d) = z) : a = c ∧ a' = c' ∧ b = d := by
  subst h1; exact ⟨(congrArg (fun q => q.1.1) h2).symm, (congrArg (fun q => q.1.2) h2).symm, (congrArg Prod.snd h2).symm⟩
theorem sameL_of {α : Type} [Inhabited α] [DecidableEq α] {a b : List α} (h : a = b) : sameL a b = true := by subst h; exact sameL_refl _
theorem sameP_of {a b : Perceptron} (h : a = b) : sameP a b = true := by subst h; exact sameP_refl _
theorem ino_ok {fs : List Feat} {v : List Int} {c : Int} (e : (v, c) = inoR fs) (h : okFeats fs 384 = true) : v = inpR fs := by
  unfold inoR at e
  rw [if_pos h, Prod.mk.injEq] at e
  exact e.1
theorem cls_nn {p : Perceptron} {fs : List Feat} {l : ByteArray} {m c : Int} (e : ((l, m), c) = clsR p fs) : 0 ≤ m := by
  have : m = (clsR p fs).1.2 := by rw [← e]
  rw [this]
  unfold clsR
  split
  · show 0 ≤ mgI _; unfold mgI; omega
  · exact Int.le_refl _

theorem tri_eq {α β γ : Type} {a a' : α} {b b' : β} {c c' : γ} {z : α × β × γ} (h1 : (a, b, c) = z) (h2 : (a', b', c') = z) : a = a' ∧ b = b' ∧ c = c' := by
  subst h1; exact ⟨(congrArg Prod.fst h2).symm, (congrArg (fun q => q.2.1) h2).symm, (congrArg (fun q => q.2.2) h2).symm⟩
theorem tep_ok {p v : Perceptron} {list : List Sample} {n c : Int} (e : (v, n, c) = tepR p list) (h : c = 0) : cdR p list = 0 ∧ epR p list list.length = (v, n, 0) := by
  by_cases h1 : cdR p list = 0
  · rw [tep_yes h1] at e; subst h; exact ⟨h1, e.symm⟩
  · rw [tep_no h1] at e
    exact absurd (((congrArg (fun q => q.2.2) e).symm.trans h : cdR p list = 0)) h1
theorem ep_pre {p : Perceptron} {list : List Sample} {k : Nat} : ∀ m, k ≤ m → (epR p list m).2.2 = 0 → (epR p list k).2.2 = 0
  | 0, hm, h => by rw [show k = 0 from by omega]; exact h
  | m + 1, hm, h => by
    by_cases e : k = m + 1
    · rw [e]; exact h
    · refine ep_pre m (by omega) ?_
      apply Classical.byContradiction
      intro hn
      rw [epR, if_neg hn] at h
      exact hn h
theorem tep_one {p : Perceptron} {list : List Sample} (hc : cdR p list = 0) (he : (epR p list list.length).2.2 = 0) {i : Nat} (hi : i < list.length) : (tepR (epR p list i).1 [at_ list i]).1 = (epR p list (i + 1)).1 ∧ (tepR (epR p list i).1 [at_ list i]).2.2 = 0 := by
  obtain ⟨h1, h2, h3⟩ := cd_ok hc
  have a := ep_pre (k := i) list.length (by omega) he
  have b := ep_pre (k := i + 1) list.length (by omega) he
  have g := ep_ok (list := list) h1 i a
  have hs : (stepR (epR p list i).1 (at_ list i)).2.2 = 0 := by
    apply Classical.byContradiction
    intro hn
    rw [epR, if_pos a, if_neg hn] at b
    exact hn b
  have hz : cdR (epR p list i).1 [at_ list i] = 0 := cd_of g.1 (fun j hj => by
    have e : j = 0 := by simp at hj; exact hj
    subst e
    have := h2 i hi
    exact ⟨this.1, by rw [g.2]; exact this.2.1⟩) (by simp)
  rw [tep_yes hz]
  have e1 : epR (epR p list i).1 [at_ list i] [at_ list i].length = ((stepR (epR p list i).1 (at_ list i)).1, 0 + (if (stepR (epR p list i).1 (at_ list i)).2.1 = true then 1 else 0), 0) := by
    show epR (epR p list i).1 [at_ list i] 1 = _
    rw [epR]
    have e0 : at_ [at_ list i] 0 = at_ list i := rfl
    rw [e0]
    show (if (0 : Int) = 0 then (if (stepR (epR p list i).1 (at_ list i)).2.2 = 0 then _ else _) else _) = _
    rw [if_pos rfl, if_pos hs]
    rfl
  have e2 : (epR p list (i + 1)).1 = (stepR (epR p list i).1 (at_ list i)).1 := by rw [epR, if_pos a, if_pos hs]
  rw [e1, e2]
  exact ⟨rfl, rfl⟩
theorem mis_ok {p : Perceptron} {list : List Sample} {v : List Int} {c : Int} (e : (v, c) = misR p list) (h : cdR p list = 0) : v = misL p list list.length ∧ c = 0 := by
  rw [mis_yes h, Prod.mk.injEq] at e; exact e

-- laws.FnEpochs
theorem fnEpochs_con (code : List Int) (ok_code : ∀ y ∈ code, inR .u8 y) : Con Try.prog 4 [slU8 false code] true (Bv true) := by
  refine fn_ok (fn := Try.f4) (nt := 203) Try.func4 rfl rfl rfl rfl (by simp [taggedL, tagged, tagU8]) fun B hB => ?_
  refine aw_lens (x := slU8 false code) 0 rfl (fun len_code => ?_)
  simp [LenOK, LenL, cU8, fU8, slU8] at len_code
  refine aR [] [0] [] [slU8 false code] [] [] hB trivial ?_
  refine aw_seq ?_
  refine aw_seq ?_
  rcases Bool.eq_false_or_eq_true (decide (4096 < (code.length : Int))) with h1 | h1
  ·refine aw_r [(1, .call [(true, .any)] true (Bv true))] [0, 31] [] [slU8 false code, Bv true] [] [Con Try.prog 5 [slU8 false code] true (Bv true) ∧ True] hB ⟨⟨(con_bool h1 (f6big_ok code)), trivial⟩, trivial⟩ ?_
   refine ae_then ?_
   refine aw_true rfl ?_
   refine aR [] [2] [] [Bv true] [] [] hB trivial ?_
   refine aw_ret ?_
   refine ae_ret_then ?_
   refine ae_ret hB (Bv true) (by kernel_rfl) (.inl rfl) rfl (fun _ => trivial)
  have hc : (∀ j, j < code.length → 0 ≤ at_ code j ∧ at_ code j ≤ 255) ∧ code.length ≤ 4611686018427387904 := ⟨fun j hj => ok_code _ (at_mem hj), by first | omega | (simp at h1; omega)⟩
  refine aw_r [(1, .call [(true, .any)] true (Bv false))] [0, 31] [] [slU8 false code, Bv false] [] [Con Try.prog 5 [slU8 false code] true (Bv false) ∧ True] hB ⟨⟨(con_bool h1 (f6big_ok code)), trivial⟩, trivial⟩ ?_
  refine ae_then ?_
  refine aw_false rfl ?_
  refine aw_skip ?_
  refine ae_then ?_
  refine aw_seq ?_
  obtain ⟨p_1, list_1, n_1, hx1_0, hx1_1, hc1⟩ := DrawTrain_ok code (by assumption)
  have hdp : drP p_1 := hx1_0
  have hdl : drS list_1 := hx1_1
  have hll := hdl.1
  have hsz : ∀ y ∈ p_1.Labels, y.size ≤ 9223372036854775807 := fun y hy => by have := hdp.2.1 y hy; omega
  have hs2 : ∀ y ∈ list_1, y.Label.size ≤ 9223372036854775807 := fun y hy => by have := hdl.2 y hy; omega
  refine aw_r [(1, .call [(true, .any)] true (.tup [agPerceptronT p_1, slSample true list_1, I n_1])), (6, .new 3)] [3, 4, 5] [3] [.ref 3 0, slSample true list_1, I n_1] [some (bxPerceptronT p_1)] [Con Try.prog 20 [slU8 false code] true (.tup [agPerceptronT p_1, slSample true list_1, I n_1]) ∧ True] hB ⟨⟨hc1, trivial⟩, trivial⟩ ?_
  refine ae_then ?_
  refine aw_seq ?_
  obtain ⟨v_2, m_2, c_2, hx2_0, hc2⟩ := implTrain_ok p_1 list_1 n_1 hsz hs2
  have hta := hx2_0
  refine aw_r [(3, .call [(false, agPerceptron p_1), (false, slSample false list_1), (true, .any)] true (.tup [agPerceptronT v_2, slI true m_2, I c_2])), (8, .new 6)] [3, 4, 5, 6, 7, 8] [3, 6] [.ref 3 0, slSample true list_1, I n_1, .ref 6 0, slI true m_2, I c_2] [some (bxPerceptronT p_1), some (bxPerceptronT v_2)] [Con Try.prog 21 [agPerceptron p_1, slSample false list_1, I n_1] true (.tup [agPerceptronT v_2, slI true m_2, I c_2]) ∧ (((false = true → true = true) ∧ 1 = 1 ∧ p_1.Labels.length = p_1.Labels.length ∧ ∀ i_, i_ < p_1.Labels.length → (fS p_1.Labels) i_ = (fS p_1.Labels) i_ ∨ (AV.idsL ((fS p_1.Labels) i_) = [] ∧ leL (fun _ => none) false ((fS p_1.Labels) i_) ((fS p_1.Labels) i_))) ∧ ((false = true → true = true) ∧ 1 = 1 ∧ p_1.Weights.length = p_1.Weights.length ∧ ∀ i_, i_ < p_1.Weights.length → (fLI true p_1.Weights) i_ = (fLI false p_1.Weights) i_ ∨ (AV.idsL ((fLI false p_1.Weights) i_) = [] ∧ leL (fun _ => none) false ((fLI true p_1.Weights) i_) ((fLI false p_1.Weights) i_))) ∧ ([] : List AV) = []) ∧ ((false = true → true = true) ∧ 2 = 2 ∧ list_1.length = list_1.length ∧ ∀ i_, i_ < list_1.length → (fSample true list_1) i_ = (fSample false list_1) i_ ∨ (AV.idsL ((fSample false list_1) i_) = [] ∧ leL (fun _ => none) false ((fSample true list_1) i_) ((fSample false list_1) i_))) ∧ True] hB ⟨⟨hc2, ⟨⟨(fun h => by cases h), rfl, rfl, fun i _ => .inl rfl⟩, ⟨⟨(fun h => by cases h), rfl, rfl, fun i _ => .inr ⟨idsLI _ _, leLI _ _ _⟩⟩, rfl⟩⟩, ⟨(fun h => by cases h), rfl, rfl, fun i _ => .inr ⟨idsSample _ _, leSample _ _ _⟩⟩, trivial⟩, trivial⟩ ?_
  refine ae_then ?_
  refine aw_seq ?_
  obtain ⟨v_3, m_3, c_3, hx3_0, hc3⟩ := specTrain_ok p_1 list_1 n_1 hsz hs2
  have he1 := three_eq hta hx3_0
  refine aw_r [(3, .call [(false, agPerceptron p_1), (false, slSample false list_1), (true, .any)] true (.tup [agPerceptronT v_3, slI true m_3, I c_3])), (8, .new 9)] [3, 4, 5, 6, 7, 8, 9, 10, 11] [3, 6, 9] [.ref 3 0, slSample true list_1, I n_1, .ref 6 0, slI true m_2, I c_2, .ref 9 0, slI true m_3, I c_3] [some (bxPerceptronT p_1), some (bxPerceptronT v_2), some (bxPerceptronT v_3)] [Con Try.prog 22 [agPerceptron p_1, slSample false list_1, I n_1] true (.tup [agPerceptronT v_3, slI true m_3, I c_3]) ∧ (((false = true → true = true) ∧ 1 = 1 ∧ p_1.Labels.length = p_1.Labels.length ∧ ∀ i_, i_ < p_1.Labels.length → (fS p_1.Labels) i_ = (fS p_1.Labels) i_ ∨ (AV.idsL ((fS p_1.Labels) i_) = [] ∧ leL (fun _ => none) false ((fS p_1.Labels) i_) ((fS p_1.Labels) i_))) ∧ ((false = true → true = true) ∧ 1 = 1 ∧ p_1.Weights.length = p_1.Weights.length ∧ ∀ i_, i_ < p_1.Weights.length → (fLI true p_1.Weights) i_ = (fLI false p_1.Weights) i_ ∨ (AV.idsL ((fLI false p_1.Weights) i_) = [] ∧ leL (fun _ => none) false ((fLI true p_1.Weights) i_) ((fLI false p_1.Weights) i_))) ∧ ([] : List AV) = []) ∧ ((false = true → true = true) ∧ 2 = 2 ∧ list_1.length = list_1.length ∧ ∀ i_, i_ < list_1.length → (fSample true list_1) i_ = (fSample false list_1) i_ ∨ (AV.idsL ((fSample false list_1) i_) = [] ∧ leL (fun _ => none) false ((fSample true list_1) i_) ((fSample false list_1) i_))) ∧ True] hB ⟨⟨hc3, ⟨⟨(fun h => by cases h), rfl, rfl, fun i _ => .inl rfl⟩, ⟨⟨(fun h => by cases h), rfl, rfl, fun i _ => .inr ⟨idsLI _ _, leLI _ _ _⟩⟩, rfl⟩⟩, ⟨(fun h => by cases h), rfl, rfl, fun i _ => .inr ⟨idsSample _ _, leSample _ _ _⟩⟩, trivial⟩, trivial⟩ ?_
  refine ae_then ?_
  refine aw_seq ?_
  obtain ⟨v_4, n_4, c_4, hx4_0, hc4⟩ := implTrainEpoch_ok p_1 list_1 hsz hs2
  have hte := hx4_0
  refine aw_r [(2, .call [(false, agPerceptron p_1), (false, slSample false list_1)] true (.tup [agPerceptronT v_4, I n_4, I c_4])), (7, .new 12)] [3, 4, 5, 6, 7, 8, 9, 10, 11, 12, 13, 14] [3, 6, 9, 12] [.ref 3 0, slSample true list_1, I n_1, .ref 6 0, slI true m_2, I c_2, .ref 9 0, slI true m_3, I c_3, .ref 12 0, I n_4, I c_4] [some (bxPerceptronT p_1), some (bxPerceptronT v_2), some (bxPerceptronT v_3), some (bxPerceptronT v_4)] [Con Try.prog 23 [agPerceptron p_1, slSample false list_1] true (.tup [agPerceptronT v_4, I n_4, I c_4]) ∧ (((false = true → true = true) ∧ 1 = 1 ∧ p_1.Labels.length = p_1.Labels.length ∧ ∀ i_, i_ < p_1.Labels.length → (fS p_1.Labels) i_ = (fS p_1.Labels) i_ ∨ (AV.idsL ((fS p_1.Labels) i_) = [] ∧ leL (fun _ => none) false ((fS p_1.Labels) i_) ((fS p_1.Labels) i_))) ∧ ((false = true → true = true) ∧ 1 = 1 ∧ p_1.Weights.length = p_1.Weights.length ∧ ∀ i_, i_ < p_1.Weights.length → (fLI true p_1.Weights) i_ = (fLI false p_1.Weights) i_ ∨ (AV.idsL ((fLI false p_1.Weights) i_) = [] ∧ leL (fun _ => none) false ((fLI true p_1.Weights) i_) ((fLI false p_1.Weights) i_))) ∧ ([] : List AV) = []) ∧ ((false = true → true = true) ∧ 2 = 2 ∧ list_1.length = list_1.length ∧ ∀ i_, i_ < list_1.length → (fSample true list_1) i_ = (fSample false list_1) i_ ∨ (AV.idsL ((fSample false list_1) i_) = [] ∧ leL (fun _ => none) false ((fSample true list_1) i_) ((fSample false list_1) i_))) ∧ True] hB ⟨⟨hc4, ⟨⟨(fun h => by cases h), rfl, rfl, fun i _ => .inl rfl⟩, ⟨⟨(fun h => by cases h), rfl, rfl, fun i _ => .inr ⟨idsLI _ _, leLI _ _ _⟩⟩, rfl⟩⟩, ⟨(fun h => by cases h), rfl, rfl, fun i _ => .inr ⟨idsSample _ _, leSample _ _ _⟩⟩, trivial⟩, trivial⟩ ?_
  refine ae_then ?_
  refine aw_seq ?_
  obtain ⟨v_5, n_5, c_5, hx5_0, hc5⟩ := specTrainEpoch_ok p_1 list_1 hsz hs2
  have he2 := tri_eq hte hx5_0
  refine aw_r [(2, .call [(false, agPerceptron p_1), (false, slSample false list_1)] true (.tup [agPerceptronT v_5, I n_5, I c_5])), (7, .new 15)] [3, 4, 5, 6, 7, 8, 9, 10, 11, 12, 13, 14, 15, 16, 17] [3, 6, 9, 12, 15] [.ref 3 0, slSample true list_1, I n_1, .ref 6 0, slI true m_2, I c_2, .ref 9 0, slI true m_3, I c_3, .ref 12 0, I n_4, I c_4, .ref 15 0, I n_5, I c_5] [some (bxPerceptronT p_1), some (bxPerceptronT v_2), some (bxPerceptronT v_3), some (bxPerceptronT v_4), some (bxPerceptronT v_5)] [Con Try.prog 24 [agPerceptron p_1, slSample false list_1] true (.tup [agPerceptronT v_5, I n_5, I c_5]) ∧ (((false = true → true = true) ∧ 1 = 1 ∧ p_1.Labels.length = p_1.Labels.length ∧ ∀ i_, i_ < p_1.Labels.length → (fS p_1.Labels) i_ = (fS p_1.Labels) i_ ∨ (AV.idsL ((fS p_1.Labels) i_) = [] ∧ leL (fun _ => none) false ((fS p_1.Labels) i_) ((fS p_1.Labels) i_))) ∧ ((false = true → true = true) ∧ 1 = 1 ∧ p_1.Weights.length = p_1.Weights.length ∧ ∀ i_, i_ < p_1.Weights.length → (fLI true p_1.Weights) i_ = (fLI false p_1.Weights) i_ ∨ (AV.idsL ((fLI false p_1.Weights) i_) = [] ∧ leL (fun _ => none) false ((fLI true p_1.Weights) i_) ((fLI false p_1.Weights) i_))) ∧ ([] : List AV) = []) ∧ ((false = true → true = true) ∧ 2 = 2 ∧ list_1.length = list_1.length ∧ ∀ i_, i_ < list_1.length → (fSample true list_1) i_ = (fSample false list_1) i_ ∨ (AV.idsL ((fSample false list_1) i_) = [] ∧ leL (fun _ => none) false ((fSample true list_1) i_) ((fSample false list_1) i_))) ∧ True] hB ⟨⟨hc5, ⟨⟨(fun h => by cases h), rfl, rfl, fun i _ => .inl rfl⟩, ⟨⟨(fun h => by cases h), rfl, rfl, fun i _ => .inr ⟨idsLI _ _, leLI _ _ _⟩⟩, rfl⟩⟩, ⟨(fun h => by cases h), rfl, rfl, fun i _ => .inr ⟨idsSample _ _, leSample _ _ _⟩⟩, trivial⟩, trivial⟩ ?_
  refine ae_then ?_
  refine aw_seq ?_
  obtain ⟨v_6, c_6, hx6_0, hc6⟩ := implMistakesOf_ok p_1 list_1 hsz hs2
  have hmi := hx6_0
  refine aw_r [(2, .call [(false, agPerceptron p_1), (false, slSample false list_1)] true (.tup [slI true v_6, I c_6]))] [3, 4, 5, 6, 7, 8, 9, 10, 11, 12, 13, 14, 15, 16, 17, 18, 19] [3, 6, 9, 12, 15] [.ref 3 0, slSample true list_1, I n_1, .ref 6 0, slI true m_2, I c_2, .ref 9 0, slI true m_3, I c_3, .ref 12 0, I n_4, I c_4, .ref 15 0, I n_5, I c_5, slI true v_6, I c_6] [some (bxPerceptronT p_1), some (bxPerceptronT v_2), some (bxPerceptronT v_3), some (bxPerceptronT v_4), some (bxPerceptronT v_5)] [Con Try.prog 25 [agPerceptron p_1, slSample false list_1] true (.tup [slI true v_6, I c_6]) ∧ (((false = true → true = true) ∧ 1 = 1 ∧ p_1.Labels.length = p_1.Labels.length ∧ ∀ i_, i_ < p_1.Labels.length → (fS p_1.Labels) i_ = (fS p_1.Labels) i_ ∨ (AV.idsL ((fS p_1.Labels) i_) = [] ∧ leL (fun _ => none) false ((fS p_1.Labels) i_) ((fS p_1.Labels) i_))) ∧ ((false = true → true = true) ∧ 1 = 1 ∧ p_1.Weights.length = p_1.Weights.length ∧ ∀ i_, i_ < p_1.Weights.length → (fLI true p_1.Weights) i_ = (fLI false p_1.Weights) i_ ∨ (AV.idsL ((fLI false p_1.Weights) i_) = [] ∧ leL (fun _ => none) false ((fLI true p_1.Weights) i_) ((fLI false p_1.Weights) i_))) ∧ ([] : List AV) = []) ∧ ((false = true → true = true) ∧ 2 = 2 ∧ list_1.length = list_1.length ∧ ∀ i_, i_ < list_1.length → (fSample true list_1) i_ = (fSample false list_1) i_ ∨ (AV.idsL ((fSample false list_1) i_) = [] ∧ leL (fun _ => none) false ((fSample true list_1) i_) ((fSample false list_1) i_))) ∧ True] hB ⟨⟨hc6, ⟨⟨(fun h => by cases h), rfl, rfl, fun i _ => .inl rfl⟩, ⟨⟨(fun h => by cases h), rfl, rfl, fun i _ => .inr ⟨idsLI _ _, leLI _ _ _⟩⟩, rfl⟩⟩, ⟨(fun h => by cases h), rfl, rfl, fun i _ => .inr ⟨idsSample _ _, leSample _ _ _⟩⟩, trivial⟩, trivial⟩ ?_
  refine ae_then ?_
  refine aw_seq ?_
  obtain ⟨v_7, c_7, hx7_0, hc7⟩ := specMistakesOf_ok p_1 list_1 hsz hs2
  have he3 := two_eq hmi hx7_0
  refine aw_r [(2, .call [(false, agPerceptron p_1), (false, slSample false list_1)] true (.tup [slI true v_7, I c_7]))] [3, 4, 5, 6, 7, 8, 9, 10, 11, 12, 13, 14, 15, 16, 17, 18, 19, 20, 21] [3, 6, 9, 12, 15] [.ref 3 0, slSample true list_1, I n_1, .ref 6 0, slI true m_2, I c_2, .ref 9 0, slI true m_3, I c_3, .ref 12 0, I n_4, I c_4, .ref 15 0, I n_5, I c_5, slI true v_6, I c_6, slI true v_7, I c_7] [some (bxPerceptronT p_1), some (bxPerceptronT v_2), some (bxPerceptronT v_3), some (bxPerceptronT v_4), some (bxPerceptronT v_5)] [Con Try.prog 26 [agPerceptron p_1, slSample false list_1] true (.tup [slI true v_7, I c_7]) ∧ (((false = true → true = true) ∧ 1 = 1 ∧ p_1.Labels.length = p_1.Labels.length ∧ ∀ i_, i_ < p_1.Labels.length → (fS p_1.Labels) i_ = (fS p_1.Labels) i_ ∨ (AV.idsL ((fS p_1.Labels) i_) = [] ∧ leL (fun _ => none) false ((fS p_1.Labels) i_) ((fS p_1.Labels) i_))) ∧ ((false = true → true = true) ∧ 1 = 1 ∧ p_1.Weights.length = p_1.Weights.length ∧ ∀ i_, i_ < p_1.Weights.length → (fLI true p_1.Weights) i_ = (fLI false p_1.Weights) i_ ∨ (AV.idsL ((fLI false p_1.Weights) i_) = [] ∧ leL (fun _ => none) false ((fLI true p_1.Weights) i_) ((fLI false p_1.Weights) i_))) ∧ ([] : List AV) = []) ∧ ((false = true → true = true) ∧ 2 = 2 ∧ list_1.length = list_1.length ∧ ∀ i_, i_ < list_1.length → (fSample true list_1) i_ = (fSample false list_1) i_ ∨ (AV.idsL ((fSample false list_1) i_) = [] ∧ leL (fun _ => none) false ((fSample true list_1) i_) ((fSample false list_1) i_))) ∧ True] hB ⟨⟨hc7, ⟨⟨(fun h => by cases h), rfl, rfl, fun i _ => .inl rfl⟩, ⟨⟨(fun h => by cases h), rfl, rfl, fun i _ => .inr ⟨idsLI _ _, leLI _ _ _⟩⟩, rfl⟩⟩, ⟨(fun h => by cases h), rfl, rfl, fun i _ => .inr ⟨idsSample _ _, leSample _ _ _⟩⟩, trivial⟩, trivial⟩ ?_
  refine ae_then ?_
  refine aw_seq ?_
  refine aR [(2, .dec false), (6, .call [(false, agPerceptron v_2), (false, agPerceptron v_3)] true (Bv true)), (12, .call [(false, slI false m_2), (false, slI false m_3)] true (Bv true)), (18, .dec false), (23, .dec false), (28, .call [(false, agPerceptron v_4), (false, agPerceptron v_5)] true (Bv true)), (34, .dec false), (39, .call [(false, slI false v_6), (false, slI false v_7)] true (Bv true))] [3, 4, 5, 6, 7, 8, 12, 13, 14, 18, 121] [3, 6, 12] [.ref 3 0, slSample true list_1, I n_1, .ref 6 0, slI true m_2, I c_2, .ref 12 0, I n_4, I c_4, slI true v_6, Bv false] [some (bxPerceptronT p_1), some (bxPerceptronT v_2), some (bxPerceptronT v_4)] [¬ (c_2 ≠ c_3), Con Try.prog 16 [agPerceptron v_2, agPerceptron v_3] true (Bv true) ∧ (((false = true → true = true) ∧ 1 = 1 ∧ v_2.Labels.length = v_2.Labels.length ∧ ∀ i_, i_ < v_2.Labels.length → (fS v_2.Labels) i_ = (fS v_2.Labels) i_ ∨ (AV.idsL ((fS v_2.Labels) i_) = [] ∧ leL (fun _ => none) false ((fS v_2.Labels) i_) ((fS v_2.Labels) i_))) ∧ ((false = true → true = true) ∧ 1 = 1 ∧ v_2.Weights.length = v_2.Weights.length ∧ ∀ i_, i_ < v_2.Weights.length → (fLI true v_2.Weights) i_ = (fLI false v_2.Weights) i_ ∨ (AV.idsL ((fLI false v_2.Weights) i_) = [] ∧ leL (fun _ => none) false ((fLI true v_2.Weights) i_) ((fLI false v_2.Weights) i_))) ∧ ([] : List AV) = []) ∧ (((false = true → true = true) ∧ 1 = 1 ∧ v_3.Labels.length = v_3.Labels.length ∧ ∀ i_, i_ < v_3.Labels.length → (fS v_3.Labels) i_ = (fS v_3.Labels) i_ ∨ (AV.idsL ((fS v_3.Labels) i_) = [] ∧ leL (fun _ => none) false ((fS v_3.Labels) i_) ((fS v_3.Labels) i_))) ∧ ((false = true → true = true) ∧ 1 = 1 ∧ v_3.Weights.length = v_3.Weights.length ∧ ∀ i_, i_ < v_3.Weights.length → (fLI true v_3.Weights) i_ = (fLI false v_3.Weights) i_ ∨ (AV.idsL ((fLI false v_3.Weights) i_) = [] ∧ leL (fun _ => none) false ((fLI true v_3.Weights) i_) ((fLI false v_3.Weights) i_))) ∧ ([] : List AV) = []) ∧ True, Con Try.prog 15 [slI false m_2, slI false m_3] true (Bv true) ∧ ((false = true → true = true) ∧ 1 = 1 ∧ m_2.length = m_2.length ∧ ∀ i_, i_ < m_2.length → (fI m_2) i_ = (fI m_2) i_ ∨ (AV.idsL ((fI m_2) i_) = [] ∧ leL (fun _ => none) false ((fI m_2) i_) ((fI m_2) i_))) ∧ ((false = true → true = true) ∧ 1 = 1 ∧ m_3.length = m_3.length ∧ ∀ i_, i_ < m_3.length → (fI m_3) i_ = (fI m_3) i_ ∨ (AV.idsL ((fI m_3) i_) = [] ∧ leL (fun _ => none) false ((fI m_3) i_) ((fI m_3) i_))) ∧ True, ¬ (c_4 ≠ c_5), ¬ (n_4 ≠ n_5), Con Try.prog 16 [agPerceptron v_4, agPerceptron v_5] true (Bv true) ∧ (((false = true → true = true) ∧ 1 = 1 ∧ v_4.Labels.length = v_4.Labels.length ∧ ∀ i_, i_ < v_4.Labels.length → (fS v_4.Labels) i_ = (fS v_4.Labels) i_ ∨ (AV.idsL ((fS v_4.Labels) i_) = [] ∧ leL (fun _ => none) false ((fS v_4.Labels) i_) ((fS v_4.Labels) i_))) ∧ ((false = true → true = true) ∧ 1 = 1 ∧ v_4.Weights.length = v_4.Weights.length ∧ ∀ i_, i_ < v_4.Weights.length → (fLI true v_4.Weights) i_ = (fLI false v_4.Weights) i_ ∨ (AV.idsL ((fLI false v_4.Weights) i_) = [] ∧ leL (fun _ => none) false ((fLI true v_4.Weights) i_) ((fLI false v_4.Weights) i_))) ∧ ([] : List AV) = []) ∧ (((false = true → true = true) ∧ 1 = 1 ∧ v_5.Labels.length = v_5.Labels.length ∧ ∀ i_, i_ < v_5.Labels.length → (fS v_5.Labels) i_ = (fS v_5.Labels) i_ ∨ (AV.idsL ((fS v_5.Labels) i_) = [] ∧ leL (fun _ => none) false ((fS v_5.Labels) i_) ((fS v_5.Labels) i_))) ∧ ((false = true → true = true) ∧ 1 = 1 ∧ v_5.Weights.length = v_5.Weights.length ∧ ∀ i_, i_ < v_5.Weights.length → (fLI true v_5.Weights) i_ = (fLI false v_5.Weights) i_ ∨ (AV.idsL ((fLI false v_5.Weights) i_) = [] ∧ leL (fun _ => none) false ((fLI true v_5.Weights) i_) ((fLI false v_5.Weights) i_))) ∧ ([] : List AV) = []) ∧ True, ¬ (c_6 ≠ c_7), Con Try.prog 15 [slI false v_6, slI false v_7] true (Bv true) ∧ ((false = true → true = true) ∧ 1 = 1 ∧ v_6.length = v_6.length ∧ ∀ i_, i_ < v_6.length → (fI v_6) i_ = (fI v_6) i_ ∨ (AV.idsL ((fI v_6) i_) = [] ∧ leL (fun _ => none) false ((fI v_6) i_) ((fI v_6) i_))) ∧ ((false = true → true = true) ∧ 1 = 1 ∧ v_7.length = v_7.length ∧ ∀ i_, i_ < v_7.length → (fI v_7) i_ = (fI v_7) i_ ∨ (AV.idsL ((fI v_7) i_) = [] ∧ leL (fun _ => none) false ((fI v_7) i_) ((fI v_7) i_))) ∧ True] hB ⟨(fun hq => hq he1.2.2), ⟨(con_bool (sameP_of he1.1) (specSamePerceptron_ok v_2 v_3)), ⟨⟨(fun h => by cases h), rfl, rfl, fun i _ => .inl rfl⟩, ⟨⟨(fun h => by cases h), rfl, rfl, fun i _ => .inr ⟨idsLI _ _, leLI _ _ _⟩⟩, rfl⟩⟩, ⟨⟨(fun h => by cases h), rfl, rfl, fun i _ => .inl rfl⟩, ⟨⟨(fun h => by cases h), rfl, rfl, fun i _ => .inr ⟨idsLI _ _, leLI _ _ _⟩⟩, rfl⟩⟩, trivial⟩, ⟨(con_bool (sameL_of he1.2.1) (f6ints_ok m_2 m_3)), ⟨(fun h => by cases h), rfl, rfl, fun i _ => .inl rfl⟩, ⟨(fun h => by cases h), rfl, rfl, fun i _ => .inl rfl⟩, trivial⟩, (fun hq => hq he2.2.2), (fun hq => hq he2.2.1), ⟨(con_bool (sameP_of he2.1) (specSamePerceptron_ok v_4 v_5)), ⟨⟨(fun h => by cases h), rfl, rfl, fun i _ => .inl rfl⟩, ⟨⟨(fun h => by cases h), rfl, rfl, fun i _ => .inr ⟨idsLI _ _, leLI _ _ _⟩⟩, rfl⟩⟩, ⟨⟨(fun h => by cases h), rfl, rfl, fun i _ => .inl rfl⟩, ⟨⟨(fun h => by cases h), rfl, rfl, fun i _ => .inr ⟨idsLI _ _, leLI _ _ _⟩⟩, rfl⟩⟩, trivial⟩, (fun hq => hq he3.2), ⟨(con_bool (sameL_of he3.1) (f6ints_ok v_6 v_7)), ⟨(fun h => by cases h), rfl, rfl, fun i _ => .inl rfl⟩, ⟨(fun h => by cases h), rfl, rfl, fun i _ => .inl rfl⟩, trivial⟩, trivial⟩ ?_
  refine aw_false rfl ?_
  refine aw_skip ?_
  refine ae_then ?_
  refine aw_seq ?_
  refine aw_seq ?_
  by_cases h2 : c_4 = 0
  ·have hto := tep_ok hte h2
   have hcd0 := hto.1
   have hef := hto.2
   have hcd := cd_ok hcd0
   have hef0 : (epR p_1 list_1 list_1.length).2.2 = 0 := by rw [hef]
   have hmw := (mis_ok hmi hcd0).1
   have hmm := mis_iff hcd0 hef0
   rw [hef, ← hmw] at hmm
   simp only at hmm
   refine aw_r [(1, .dec true)] [3, 4, 5, 6, 7, 8, 12, 13, 18, 123] [3, 6, 12] [.ref 3 0, slSample true list_1, I n_1, .ref 6 0, slI true m_2, I c_2, .ref 12 0, I n_4, slI true v_6, Bv true] [some (bxPerceptronT p_1), some (bxPerceptronT v_2), some (bxPerceptronT v_4)] [c_4 = 0] hB ⟨h2, trivial⟩ ?_
   refine ae_then ?_
   refine aw_true rfl ?_
   refine aR [(1, .new 22)] [4, 5, 6, 7, 8, 12, 13, 18, 22] [6, 12, 22] [slSample true list_1, I n_1, .ref 6 0, slI true m_2, I c_2, .ref 12 0, I n_4, slI true v_6, .ref 22 0] [some (bxPerceptronT v_2), some (bxPerceptronT v_4), some (bxPerceptronT p_1)] [] hB trivial ?_
   refine aw_seq ?_
   refine aR [] [4, 5, 6, 7, 8, 12, 13, 18, 22, 23] [6, 12, 22] [slSample true list_1, I n_1, .ref 6 0, slI true m_2, I c_2, .ref 12 0, I n_4, slI true v_6, .ref 22 0, I 0] [some (bxPerceptronT v_2), some (bxPerceptronT v_4), some (bxPerceptronT p_1)] [] hB trivial ?_
   refine aw_block ?_
   refine aw_loop (fun gn gσ => ∃ (i : Int) (z : Perceptron), gn = ((list_1.length : Int) - i).toNat ∧ (0 ≤ i ∧ i ≤ (list_1.length : Int)) ∧ (z = (epR p_1 list_1 i.toNat).1) ∧ gσ = mkS [(4, slSample true list_1), (5, I n_1), (6, .ref 6 0), (7, slI true m_2), (8, I c_2), (12, .ref 12 0), (13, I n_4), (18, slI true v_6), (22, .ref 22 0), (23, I i)] [(6, bxPerceptronT v_2), (12, bxPerceptronT v_4), (22, bxPerceptronT z)]) (((list_1.length : Int) - 0).toNat) ⟨0, p_1, rfl, (by omega), (by rfl), rfl⟩ (fun gn gσ hI => ?_)
   obtain ⟨i, z, rfl, hi0, hzz, rfl⟩ := hI
   refine aw_seq ?_
   refine aw_seq ?_
   by_cases h3 : i < (list_1.length : Int)
   ·have hi : i.toNat < list_1.length := by omega
    have hzk : okPerc z = true := by rw [hzz]; exact (ep_ok hcd.1 _ (ep_pre (k := i.toNat) _ (by omega) hef0)).1
    refine aw_r [(3, .dec true)] [4, 5, 6, 7, 8, 12, 13, 18, 22, 23, 128] [6, 12, 22] [slSample true list_1, I n_1, .ref 6 0, slI true m_2, I c_2, .ref 12 0, I n_4, slI true v_6, .ref 22 0, I i, Bv true] [some (bxPerceptronT v_2), some (bxPerceptronT v_4), some (bxPerceptronT z)] [i < (list_1.length : Int)] hB ⟨h3, trivial⟩ ?_
    refine ae_then ?_
    refine aw_true rfl ?_
    refine aw_skip ?_
    refine ae_then ?_
    refine aw_seq ?_
    refine aw_block ?_
    refine aw_seq ?_
    obtain ⟨v_8, ch_8, c_8, hx8_0, hc8⟩ := implTrainOne_ok z (at_ list_1 i.toNat) (okP_sz hzk) (hs2 _ (at_mem hi))
    have h1s := tep_one hcd0 hef0 hi
    rw [← hzz] at h1s
    have hov : v_8 = (epR p_1 list_1 (i.toNat + 1)).1 := hx8_0.1.trans h1s.1
    have hoc : c_8 = 0 := hx8_0.2.2.trans h1s.2
    refine aw_r [(5, .call [(false, agPerceptron z), (false, agSample (at_ list_1 i.toNat))] true (.tup [agPerceptronT v_8, Bv ch_8, I c_8])), (10, .new 24)] [4, 5, 6, 7, 8, 12, 13, 18, 22, 23, 24, 26] [6, 12, 22, 24] [slSample true list_1, I n_1, .ref 6 0, slI true m_2, I c_2, .ref 12 0, I n_4, slI true v_6, .ref 22 0, I i, .ref 24 0, I c_8] [some (bxPerceptronT v_2), some (bxPerceptronT v_4), some (bxPerceptronT z), some (bxPerceptronT v_8)] [(0 : Int) ≤ i ∧ i < (list_1.length : Int), Con Try.prog 27 [agPerceptron z, agSample (at_ list_1 i.toNat)] true (.tup [agPerceptronT v_8, Bv ch_8, I c_8]) ∧ (((false = true → true = true) ∧ 1 = 1 ∧ z.Labels.length = z.Labels.length ∧ ∀ i_, i_ < z.Labels.length → (fS z.Labels) i_ = (fS z.Labels) i_ ∨ (AV.idsL ((fS z.Labels) i_) = [] ∧ leL (fun _ => none) false ((fS z.Labels) i_) ((fS z.Labels) i_))) ∧ ((false = true → true = true) ∧ 1 = 1 ∧ z.Weights.length = z.Weights.length ∧ ∀ i_, i_ < z.Weights.length → (fLI true z.Weights) i_ = (fLI false z.Weights) i_ ∨ (AV.idsL ((fLI false z.Weights) i_) = [] ∧ leL (fun _ => none) false ((fLI true z.Weights) i_) ((fLI false z.Weights) i_))) ∧ ([] : List AV) = []) ∧ ((valOf (Sv ((at_ list_1 i.toNat).Label)) = valOf (Sv ((at_ list_1 i.toNat).Label))) ∧ ((false = true → true = true) ∧ 3 = 3 ∧ (((at_ list_1 i.toNat).Feats).length) = (((at_ list_1 i.toNat).Feats).length) ∧ ∀ i_, i_ < (((at_ list_1 i.toNat).Feats).length) → (fFeat ((at_ list_1 i.toNat).Feats)) i_ = (fFeat ((at_ list_1 i.toNat).Feats)) i_ ∨ (AV.idsL ((fFeat ((at_ list_1 i.toNat).Feats)) i_) = [] ∧ leL (fun _ => none) false ((fFeat ((at_ list_1 i.toNat).Feats)) i_) ((fFeat ((at_ list_1 i.toNat).Feats)) i_))) ∧ ([] : List AV) = []) ∧ True] hB ⟨⟨(by omega), (by omega)⟩, ⟨hc8, ⟨⟨(fun h => by cases h), rfl, rfl, fun i _ => .inl rfl⟩, ⟨⟨(fun h => by cases h), rfl, rfl, fun i _ => .inr ⟨idsLI _ _, leLI _ _ _⟩⟩, rfl⟩⟩, ⟨rfl, ⟨⟨(fun h => by cases h), rfl, rfl, fun i _ => .inl rfl⟩, rfl⟩⟩, trivial⟩, trivial⟩ ?_
    refine ae_then ?_
    refine aw_seq ?_
    refine aR [(1, .dec false)] [4, 5, 6, 7, 8, 12, 13, 18, 22, 23, 24, 142] [6, 12, 22, 24] [slSample true list_1, I n_1, .ref 6 0, slI true m_2, I c_2, .ref 12 0, I n_4, slI true v_6, .ref 22 0, I i, .ref 24 0, Bv false] [some (bxPerceptronT v_2), some (bxPerceptronT v_4), some (bxPerceptronT z), some (bxPerceptronT v_8)] [¬ (c_8 ≠ 0)] hB ⟨(fun hq => hq hoc), trivial⟩ ?_
    refine aw_false rfl ?_
    refine aw_skip ?_
    refine ae_then ?_
    refine aw_r [] [4, 5, 6, 7, 8, 12, 13, 18, 22, 23] [6, 12, 22] [slSample true list_1, I n_1, .ref 6 0, slI true m_2, I c_2, .ref 12 0, I n_4, slI true v_6, .ref 22 0, I i] [some (bxPerceptronT v_2), some (bxPerceptronT v_4), some (bxPerceptronT v_8)] [] hB trivial ?_
    refine ae_block 1 ?_
    refine ae_then ?_
    refine aw_r [] [4, 5, 6, 7, 8, 12, 13, 18, 22, 23] [6, 12, 22] [slSample true list_1, I n_1, .ref 6 0, slI true m_2, I c_2, .ref 12 0, I n_4, slI true v_6, .ref 22 0, I (i + 1)] [some (bxPerceptronT v_2), some (bxPerceptronT v_4), some (bxPerceptronT v_8)] [inR .i64 (i + 1)] hB ⟨(inR_i64 (by omega) (by omega)), trivial⟩ ?_
    exact ae_again _ (by omega) ⟨(i + 1), v_8, rfl, (by omega), (by (rw [show (i + 1).toNat = i.toNat + 1 from by omega]; exact hov)), rfl⟩
   have hie : i.toNat = list_1.length := by omega
   rw [hie, hef] at hzz
   have hzy : z = v_4 := hzz
   refine aw_r [(3, .dec false)] [4, 5, 6, 7, 8, 12, 13, 18, 22, 23, 128] [6, 12, 22] [slSample true list_1, I n_1, .ref 6 0, slI true m_2, I c_2, .ref 12 0, I n_4, slI true v_6, .ref 22 0, I i, Bv false] [some (bxPerceptronT v_2), some (bxPerceptronT v_4), some (bxPerceptronT z)] [¬ (i < (list_1.length : Int))] hB ⟨h3, trivial⟩ ?_
   refine ae_then ?_
   refine aw_false rfl ?_
   refine aw_exit ?_
   refine ae_exit_then ?_
   refine ae_exit_then ?_
   refine ae_exit_same ?_
   refine ae_then ?_
   refine aw_seq ?_
   by_cases h4 : n_4 = 0
   ·have hw0 : (v_6.length : Int) = 0 := by rw [hmm.1 h4]; rfl
    refine aw_r [(2, .call [(false, agPerceptron z), (false, agPerceptron v_4)] true (Bv true)), (6, .dec true), (9, .dec true)] [4, 5, 6, 7, 8, 155] [6] [slSample true list_1, I n_1, .ref 6 0, slI true m_2, I c_2, Bv false] [some (bxPerceptronT v_2)] [Con Try.prog 16 [agPerceptron z, agPerceptron v_4] true (Bv true) ∧ (((false = true → true = true) ∧ 1 = 1 ∧ z.Labels.length = z.Labels.length ∧ ∀ i_, i_ < z.Labels.length → (fS z.Labels) i_ = (fS z.Labels) i_ ∨ (AV.idsL ((fS z.Labels) i_) = [] ∧ leL (fun _ => none) false ((fS z.Labels) i_) ((fS z.Labels) i_))) ∧ ((false = true → true = true) ∧ 1 = 1 ∧ z.Weights.length = z.Weights.length ∧ ∀ i_, i_ < z.Weights.length → (fLI true z.Weights) i_ = (fLI false z.Weights) i_ ∨ (AV.idsL ((fLI false z.Weights) i_) = [] ∧ leL (fun _ => none) false ((fLI true z.Weights) i_) ((fLI false z.Weights) i_))) ∧ ([] : List AV) = []) ∧ (((false = true → true = true) ∧ 1 = 1 ∧ v_4.Labels.length = v_4.Labels.length ∧ ∀ i_, i_ < v_4.Labels.length → (fS v_4.Labels) i_ = (fS v_4.Labels) i_ ∨ (AV.idsL ((fS v_4.Labels) i_) = [] ∧ leL (fun _ => none) false ((fS v_4.Labels) i_) ((fS v_4.Labels) i_))) ∧ ((false = true → true = true) ∧ 1 = 1 ∧ v_4.Weights.length = v_4.Weights.length ∧ ∀ i_, i_ < v_4.Weights.length → (fLI true v_4.Weights) i_ = (fLI false v_4.Weights) i_ ∨ (AV.idsL ((fLI false v_4.Weights) i_) = [] ∧ leL (fun _ => none) false ((fLI true v_4.Weights) i_) ((fLI false v_4.Weights) i_))) ∧ ([] : List AV) = []) ∧ True, n_4 = 0, (v_6.length : Int) = 0] hB ⟨⟨(con_bool (sameP_of hzy) (specSamePerceptron_ok z v_4)), ⟨⟨(fun h => by cases h), rfl, rfl, fun i _ => .inl rfl⟩, ⟨⟨(fun h => by cases h), rfl, rfl, fun i _ => .inr ⟨idsLI _ _, leLI _ _ _⟩⟩, rfl⟩⟩, ⟨⟨(fun h => by cases h), rfl, rfl, fun i _ => .inl rfl⟩, ⟨⟨(fun h => by cases h), rfl, rfl, fun i _ => .inr ⟨idsLI _ _, leLI _ _ _⟩⟩, rfl⟩⟩, trivial⟩, h4, hw0, trivial⟩ ?_
    refine ae_then ?_
    refine aw_false rfl ?_
    refine aw_skip ?_
    refine ae_then ?_
    refine aw_seq ?_
    refine aw_seq ?_
    by_cases h5 : c_2 = 0
    ·have htl := tra_law hta h5
     have hml := htl.1
     refine aw_r [(1, .dec false)] [4, 5, 6, 7, 157] [6] [slSample true list_1, I n_1, .ref 6 0, slI true m_2, Bv false] [some (bxPerceptronT v_2)] [¬ (c_2 ≠ 0)] hB ⟨(fun hq => hq h5), trivial⟩ ?_
     refine ae_then ?_
     refine aw_false rfl ?_
     refine aw_skip ?_
     refine ae_then ?_
     refine aR [] [4, 5, 6, 7, 27] [6] [slSample true list_1, I n_1, .ref 6 0, slI true m_2, I (m_2.length : Int)] [some (bxPerceptronT v_2)] [] hB trivial ?_
     refine aw_seq ?_
     refine aw_seq ?_
     by_cases h6 : (m_2.length : Int) < n_1
     ·have hlast := htl.2.2 (htl.2.1 h6).1 (htl.2.1 h6).2
      have hxk := (cd_ok hlast.1).1
      refine aw_r [(2, .dec false), (6, .dec true), (9, .dec false), (16, .dec false)] [4, 6, 7, 27, 179] [6] [slSample true list_1, .ref 6 0, slI true m_2, I (m_2.length : Int), Bv false] [some (bxPerceptronT v_2)] [¬ (n_1 < (m_2.length : Int)), (m_2.length : Int) < n_1, ¬ ((m_2.length : Int) = 0), inR .i64 ((m_2.length : Int) - 1), (0 : Int) ≤ ((m_2.length : Int) - 1) ∧ ((m_2.length : Int) - 1) < (m_2.length : Int), ¬ ((at_ m_2 (((m_2.length : Int) - 1).toNat)) ≠ 0)] hB ⟨(by omega), h6, (by have := (htl.2.1 (by omega)).1; omega), (inR_i64 (by omega) (by omega)), ⟨(by omega), (by omega)⟩, (fun hq => hq (by rw [show ((m_2.length : Int) - 1).toNat = m_2.length - 1 from by omega]; exact (htl.2.1 (by omega)).2)), trivial⟩ ?_
      refine ae_then ?_
      refine aw_false rfl ?_
      refine aw_skip ?_
      refine ae_then ?_
      refine aw_seq ?_
      refine aR [(1, .dec false), (8, .dec false)] [4, 6, 189] [6] [slSample true list_1, .ref 6 0, Bv false] [some (bxPerceptronT v_2)] [¬ ((m_2.length : Int) = 0), inR .i64 ((m_2.length : Int) - 1), (0 : Int) ≤ ((m_2.length : Int) - 1) ∧ ((m_2.length : Int) - 1) < (m_2.length : Int), ¬ ((at_ m_2 (((m_2.length : Int) - 1).toNat)) ≠ 0)] hB ⟨(by have := (htl.2.1 (by omega)).1; omega), (inR_i64 (by omega) (by omega)), ⟨(by omega), (by omega)⟩, (fun hq => hq (by rw [show ((m_2.length : Int) - 1).toNat = m_2.length - 1 from by omega]; exact (htl.2.1 (by omega)).2)), trivial⟩ ?_
      refine aw_false rfl ?_
      refine aw_skip ?_
      refine ae_then ?_
      refine aw_seq ?_
      obtain ⟨v_9, c_9, hx9_0, hc9⟩ := implMistakesOf_ok v_2 list_1 (okP_sz hxk) hs2
      have hno := mis_ok hx9_0 hlast.1
      have hnl : (v_9.length : Int) = 0 := by rw [hno.1, hlast.2]; rfl
      refine aw_r [(2, .call [(false, agPerceptron v_2), (false, slSample false list_1)] true (.tup [slI true v_9, I c_9]))] [28, 29] [] [slI true v_9, I c_9] [] [Con Try.prog 25 [agPerceptron v_2, slSample false list_1] true (.tup [slI true v_9, I c_9]) ∧ (((false = true → true = true) ∧ 1 = 1 ∧ v_2.Labels.length = v_2.Labels.length ∧ ∀ i_, i_ < v_2.Labels.length → (fS v_2.Labels) i_ = (fS v_2.Labels) i_ ∨ (AV.idsL ((fS v_2.Labels) i_) = [] ∧ leL (fun _ => none) false ((fS v_2.Labels) i_) ((fS v_2.Labels) i_))) ∧ ((false = true → true = true) ∧ 1 = 1 ∧ v_2.Weights.length = v_2.Weights.length ∧ ∀ i_, i_ < v_2.Weights.length → (fLI true v_2.Weights) i_ = (fLI false v_2.Weights) i_ ∨ (AV.idsL ((fLI false v_2.Weights) i_) = [] ∧ leL (fun _ => none) false ((fLI true v_2.Weights) i_) ((fLI false v_2.Weights) i_))) ∧ ([] : List AV) = []) ∧ ((false = true → true = true) ∧ 2 = 2 ∧ list_1.length = list_1.length ∧ ∀ i_, i_ < list_1.length → (fSample true list_1) i_ = (fSample false list_1) i_ ∨ (AV.idsL ((fSample false list_1) i_) = [] ∧ leL (fun _ => none) false ((fSample true list_1) i_) ((fSample false list_1) i_))) ∧ True] hB ⟨⟨hc9, ⟨⟨(fun h => by cases h), rfl, rfl, fun i _ => .inl rfl⟩, ⟨⟨(fun h => by cases h), rfl, rfl, fun i _ => .inr ⟨idsLI _ _, leLI _ _ _⟩⟩, rfl⟩⟩, ⟨(fun h => by cases h), rfl, rfl, fun i _ => .inr ⟨idsSample _ _, leSample _ _ _⟩⟩, trivial⟩, trivial⟩ ?_
      refine ae_then ?_
      refine aR [(1, .dec true)] [2] [] [Bv (decide ((v_9.length : Int) = 0))] [] [c_9 = 0] hB ⟨hno.2, trivial⟩ ?_
      refine aw_ret ?_
      refine ae_ret hB (Bv (decide ((v_9.length : Int) = 0))) (by kernel_rfl) (.inl (by first | rfl | (refine congrArg Bv ?_; exact decide_eq_true hnl))) rfl (fun _ => trivial)
     refine aw_r [(2, .dec false), (6, .dec false)] [4, 6, 7, 27, 179] [6] [slSample true list_1, .ref 6 0, slI true m_2, I (m_2.length : Int), Bv false] [some (bxPerceptronT v_2)] [¬ (n_1 < (m_2.length : Int)), ¬ ((m_2.length : Int) < n_1)] hB ⟨(by omega), h6, trivial⟩ ?_
     refine ae_then ?_
     refine aw_false rfl ?_
     refine aw_skip ?_
     refine ae_then ?_
     refine aw_seq ?_
     refine aw_seq ?_
     by_cases h7 : (m_2.length : Int) = 0
     ·refine aw_r [(1, .dec true)] [4, 6, 189] [6] [slSample true list_1, .ref 6 0, Bv true] [some (bxPerceptronT v_2)] [(m_2.length : Int) = 0] hB ⟨h7, trivial⟩ ?_
      refine ae_then ?_
      refine aw_true rfl ?_
      refine aR [] [2] [] [Bv true] [] [] hB trivial ?_
      refine aw_ret ?_
      refine ae_ret_then ?_
      refine ae_ret hB (Bv true) (by kernel_rfl) (.inl rfl) rfl (fun _ => trivial)
     by_cases h8 : (at_ m_2 (((m_2.length : Int) - 1).toNat)) = 0
     ·have hlast := htl.2.2 (by omega) (by rw [show m_2.length - 1 = ((m_2.length : Int) - 1).toNat from by omega]; exact h8)
      have hxk := (cd_ok hlast.1).1
      refine aw_r [(1, .dec false), (8, .dec false)] [4, 6, 189] [6] [slSample true list_1, .ref 6 0, Bv false] [some (bxPerceptronT v_2)] [¬ ((m_2.length : Int) = 0), inR .i64 ((m_2.length : Int) - 1), (0 : Int) ≤ ((m_2.length : Int) - 1) ∧ ((m_2.length : Int) - 1) < (m_2.length : Int), ¬ ((at_ m_2 (((m_2.length : Int) - 1).toNat)) ≠ 0)] hB ⟨h7, (inR_i64 (by omega) (by omega)), ⟨(by omega), (by omega)⟩, (fun hq => hq h8), trivial⟩ ?_
      refine ae_then ?_
      refine aw_false rfl ?_
      refine aw_skip ?_
      refine ae_then ?_
      refine aw_seq ?_
      obtain ⟨v_10, c_10, hx10_0, hc10⟩ := implMistakesOf_ok v_2 list_1 (okP_sz hxk) hs2
      have hno := mis_ok hx10_0 hlast.1
      have hnl : (v_10.length : Int) = 0 := by rw [hno.1, hlast.2]; rfl
      refine aw_r [(2, .call [(false, agPerceptron v_2), (false, slSample false list_1)] true (.tup [slI true v_10, I c_10]))] [28, 29] [] [slI true v_10, I c_10] [] [Con Try.prog 25 [agPerceptron v_2, slSample false list_1] true (.tup [slI true v_10, I c_10]) ∧ (((false = true → true = true) ∧ 1 = 1 ∧ v_2.Labels.length = v_2.Labels.length ∧ ∀ i_, i_ < v_2.Labels.length → (fS v_2.Labels) i_ = (fS v_2.Labels) i_ ∨ (AV.idsL ((fS v_2.Labels) i_) = [] ∧ leL (fun _ => none) false ((fS v_2.Labels) i_) ((fS v_2.Labels) i_))) ∧ ((false = true → true = true) ∧ 1 = 1 ∧ v_2.Weights.length = v_2.Weights.length ∧ ∀ i_, i_ < v_2.Weights.length → (fLI true v_2.Weights) i_ = (fLI false v_2.Weights) i_ ∨ (AV.idsL ((fLI false v_2.Weights) i_) = [] ∧ leL (fun _ => none) false ((fLI true v_2.Weights) i_) ((fLI false v_2.Weights) i_))) ∧ ([] : List AV) = []) ∧ ((false = true → true = true) ∧ 2 = 2 ∧ list_1.length = list_1.length ∧ ∀ i_, i_ < list_1.length → (fSample true list_1) i_ = (fSample false list_1) i_ ∨ (AV.idsL ((fSample false list_1) i_) = [] ∧ leL (fun _ => none) false ((fSample true list_1) i_) ((fSample false list_1) i_))) ∧ True] hB ⟨⟨hc10, ⟨⟨(fun h => by cases h), rfl, rfl, fun i _ => .inl rfl⟩, ⟨⟨(fun h => by cases h), rfl, rfl, fun i _ => .inr ⟨idsLI _ _, leLI _ _ _⟩⟩, rfl⟩⟩, ⟨(fun h => by cases h), rfl, rfl, fun i _ => .inr ⟨idsSample _ _, leSample _ _ _⟩⟩, trivial⟩, trivial⟩ ?_
      refine ae_then ?_
      refine aR [(1, .dec true)] [2] [] [Bv (decide ((v_10.length : Int) = 0))] [] [c_10 = 0] hB ⟨hno.2, trivial⟩ ?_
      refine aw_ret ?_
      refine ae_ret hB (Bv (decide ((v_10.length : Int) = 0))) (by kernel_rfl) (.inl (by first | rfl | (refine congrArg Bv ?_; exact decide_eq_true hnl))) rfl (fun _ => trivial)
     refine aw_r [(1, .dec false), (8, .dec true)] [4, 6, 189] [6] [slSample true list_1, .ref 6 0, Bv true] [some (bxPerceptronT v_2)] [¬ ((m_2.length : Int) = 0), inR .i64 ((m_2.length : Int) - 1), (0 : Int) ≤ ((m_2.length : Int) - 1) ∧ ((m_2.length : Int) - 1) < (m_2.length : Int), (at_ m_2 (((m_2.length : Int) - 1).toNat)) ≠ 0] hB ⟨h7, (inR_i64 (by omega) (by omega)), ⟨(by omega), (by omega)⟩, h8, trivial⟩ ?_
     refine ae_then ?_
     refine aw_true rfl ?_
     refine aR [] [2] [] [Bv true] [] [] hB trivial ?_
     refine aw_ret ?_
     refine ae_ret_then ?_
     refine ae_ret hB (Bv true) (by kernel_rfl) (.inl rfl) rfl (fun _ => trivial)
    refine aw_r [(1, .dec true)] [4, 5, 6, 7, 157] [6] [slSample true list_1, I n_1, .ref 6 0, slI true m_2, Bv true] [some (bxPerceptronT v_2)] [c_2 ≠ 0] hB ⟨h5, trivial⟩ ?_
    refine ae_then ?_
    refine aw_true rfl ?_
    refine aR [] [2] [] [Bv true] [] [] hB trivial ?_
    refine aw_ret ?_
    refine ae_ret_then ?_
    refine ae_ret hB (Bv true) (by kernel_rfl) (.inl rfl) rfl (fun _ => trivial)
   have hw0 : ¬ (v_6.length : Int) = 0 := fun q => h4 (hmm.2 (List.eq_nil_of_length_eq_zero (by omega)))
   refine aw_r [(2, .call [(false, agPerceptron z), (false, agPerceptron v_4)] true (Bv true)), (6, .dec false), (9, .dec false)] [4, 5, 6, 7, 8, 155] [6] [slSample true list_1, I n_1, .ref 6 0, slI true m_2, I c_2, Bv false] [some (bxPerceptronT v_2)] [Con Try.prog 16 [agPerceptron z, agPerceptron v_4] true (Bv true) ∧ (((false = true → true = true) ∧ 1 = 1 ∧ z.Labels.length = z.Labels.length ∧ ∀ i_, i_ < z.Labels.length → (fS z.Labels) i_ = (fS z.Labels) i_ ∨ (AV.idsL ((fS z.Labels) i_) = [] ∧ leL (fun _ => none) false ((fS z.Labels) i_) ((fS z.Labels) i_))) ∧ ((false = true → true = true) ∧ 1 = 1 ∧ z.Weights.length = z.Weights.length ∧ ∀ i_, i_ < z.Weights.length → (fLI true z.Weights) i_ = (fLI false z.Weights) i_ ∨ (AV.idsL ((fLI false z.Weights) i_) = [] ∧ leL (fun _ => none) false ((fLI true z.Weights) i_) ((fLI false z.Weights) i_))) ∧ ([] : List AV) = []) ∧ (((false = true → true = true) ∧ 1 = 1 ∧ v_4.Labels.length = v_4.Labels.length ∧ ∀ i_, i_ < v_4.Labels.length → (fS v_4.Labels) i_ = (fS v_4.Labels) i_ ∨ (AV.idsL ((fS v_4.Labels) i_) = [] ∧ leL (fun _ => none) false ((fS v_4.Labels) i_) ((fS v_4.Labels) i_))) ∧ ((false = true → true = true) ∧ 1 = 1 ∧ v_4.Weights.length = v_4.Weights.length ∧ ∀ i_, i_ < v_4.Weights.length → (fLI true v_4.Weights) i_ = (fLI false v_4.Weights) i_ ∨ (AV.idsL ((fLI false v_4.Weights) i_) = [] ∧ leL (fun _ => none) false ((fLI true v_4.Weights) i_) ((fLI false v_4.Weights) i_))) ∧ ([] : List AV) = []) ∧ True, ¬ (n_4 = 0), ¬ ((v_6.length : Int) = 0)] hB ⟨⟨(con_bool (sameP_of hzy) (specSamePerceptron_ok z v_4)), ⟨⟨(fun h => by cases h), rfl, rfl, fun i _ => .inl rfl⟩, ⟨⟨(fun h => by cases h), rfl, rfl, fun i _ => .inr ⟨idsLI _ _, leLI _ _ _⟩⟩, rfl⟩⟩, ⟨⟨(fun h => by cases h), rfl, rfl, fun i _ => .inl rfl⟩, ⟨⟨(fun h => by cases h), rfl, rfl, fun i _ => .inr ⟨idsLI _ _, leLI _ _ _⟩⟩, rfl⟩⟩, trivial⟩, h4, hw0, trivial⟩ ?_
   refine ae_then ?_
   refine aw_false rfl ?_
   refine aw_skip ?_
   refine ae_then ?_
   refine aw_seq ?_
   refine aw_seq ?_
   by_cases h9 : c_2 = 0
   ·have htl := tra_law hta h9
    have hml := htl.1
    refine aw_r [(1, .dec false)] [4, 5, 6, 7, 157] [6] [slSample true list_1, I n_1, .ref 6 0, slI true m_2, Bv false] [some (bxPerceptronT v_2)] [¬ (c_2 ≠ 0)] hB ⟨(fun hq => hq h9), trivial⟩ ?_
    refine ae_then ?_
    refine aw_false rfl ?_
    refine aw_skip ?_
    refine ae_then ?_
    refine aR [] [4, 5, 6, 7, 27] [6] [slSample true list_1, I n_1, .ref 6 0, slI true m_2, I (m_2.length : Int)] [some (bxPerceptronT v_2)] [] hB trivial ?_
    refine aw_seq ?_
    refine aw_seq ?_
    by_cases h10 : (m_2.length : Int) < n_1
    ·have hlast := htl.2.2 (htl.2.1 h10).1 (htl.2.1 h10).2
     have hxk := (cd_ok hlast.1).1
     refine aw_r [(2, .dec false), (6, .dec true), (9, .dec false), (16, .dec false)] [4, 6, 7, 27, 179] [6] [slSample true list_1, .ref 6 0, slI true m_2, I (m_2.length : Int), Bv false] [some (bxPerceptronT v_2)] [¬ (n_1 < (m_2.length : Int)), (m_2.length : Int) < n_1, ¬ ((m_2.length : Int) = 0), inR .i64 ((m_2.length : Int) - 1), (0 : Int) ≤ ((m_2.length : Int) - 1) ∧ ((m_2.length : Int) - 1) < (m_2.length : Int), ¬ ((at_ m_2 (((m_2.length : Int) - 1).toNat)) ≠ 0)] hB ⟨(by omega), h10, (by have := (htl.2.1 (by omega)).1; omega), (inR_i64 (by omega) (by omega)), ⟨(by omega), (by omega)⟩, (fun hq => hq (by rw [show ((m_2.length : Int) - 1).toNat = m_2.length - 1 from by omega]; exact (htl.2.1 (by omega)).2)), trivial⟩ ?_
     refine ae_then ?_
     refine aw_false rfl ?_
     refine aw_skip ?_
     refine ae_then ?_
     refine aw_seq ?_
     refine aR [(1, .dec false), (8, .dec false)] [4, 6, 189] [6] [slSample true list_1, .ref 6 0, Bv false] [some (bxPerceptronT v_2)] [¬ ((m_2.length : Int) = 0), inR .i64 ((m_2.length : Int) - 1), (0 : Int) ≤ ((m_2.length : Int) - 1) ∧ ((m_2.length : Int) - 1) < (m_2.length : Int), ¬ ((at_ m_2 (((m_2.length : Int) - 1).toNat)) ≠ 0)] hB ⟨(by have := (htl.2.1 (by omega)).1; omega), (inR_i64 (by omega) (by omega)), ⟨(by omega), (by omega)⟩, (fun hq => hq (by rw [show ((m_2.length : Int) - 1).toNat = m_2.length - 1 from by omega]; exact (htl.2.1 (by omega)).2)), trivial⟩ ?_
     refine aw_false rfl ?_
     refine aw_skip ?_
     refine ae_then ?_
     refine aw_seq ?_
     obtain ⟨v_11, c_11, hx11_0, hc11⟩ := implMistakesOf_ok v_2 list_1 (okP_sz hxk) hs2
     have hno := mis_ok hx11_0 hlast.1
     have hnl : (v_11.length : Int) = 0 := by rw [hno.1, hlast.2]; rfl
     refine aw_r [(2, .call [(false, agPerceptron v_2), (false, slSample false list_1)] true (.tup [slI true v_11, I c_11]))] [28, 29] [] [slI true v_11, I c_11] [] [Con Try.prog 25 [agPerceptron v_2, slSample false list_1] true (.tup [slI true v_11, I c_11]) ∧ (((false = true → true = true) ∧ 1 = 1 ∧ v_2.Labels.length = v_2.Labels.length ∧ ∀ i_, i_ < v_2.Labels.length → (fS v_2.Labels) i_ = (fS v_2.Labels) i_ ∨ (AV.idsL ((fS v_2.Labels) i_) = [] ∧ leL (fun _ => none) false ((fS v_2.Labels) i_) ((fS v_2.Labels) i_))) ∧ ((false = true → true = true) ∧ 1 = 1 ∧ v_2.Weights.length = v_2.Weights.length ∧ ∀ i_, i_ < v_2.Weights.length → (fLI true v_2.Weights) i_ = (fLI false v_2.Weights) i_ ∨ (AV.idsL ((fLI false v_2.Weights) i_) = [] ∧ leL (fun _ => none) false ((fLI true v_2.Weights) i_) ((fLI false v_2.Weights) i_))) ∧ ([] : List AV) = []) ∧ ((false = true → true = true) ∧ 2 = 2 ∧ list_1.length = list_1.length ∧ ∀ i_, i_ < list_1.length → (fSample true list_1) i_ = (fSample false list_1) i_ ∨ (AV.idsL ((fSample false list_1) i_) = [] ∧ leL (fun _ => none) false ((fSample true list_1) i_) ((fSample false list_1) i_))) ∧ True] hB ⟨⟨hc11, ⟨⟨(fun h => by cases h), rfl, rfl, fun i _ => .inl rfl⟩, ⟨⟨(fun h => by cases h), rfl, rfl, fun i _ => .inr ⟨idsLI _ _, leLI _ _ _⟩⟩, rfl⟩⟩, ⟨(fun h => by cases h), rfl, rfl, fun i _ => .inr ⟨idsSample _ _, leSample _ _ _⟩⟩, trivial⟩, trivial⟩ ?_
     refine ae_then ?_
     refine aR [(1, .dec true)] [2] [] [Bv (decide ((v_11.length : Int) = 0))] [] [c_11 = 0] hB ⟨hno.2, trivial⟩ ?_
     refine aw_ret ?_
     refine ae_ret hB (Bv (decide ((v_11.length : Int) = 0))) (by kernel_rfl) (.inl (by first | rfl | (refine congrArg Bv ?_; exact decide_eq_true hnl))) rfl (fun _ => trivial)
    refine aw_r [(2, .dec false), (6, .dec false)] [4, 6, 7, 27, 179] [6] [slSample true list_1, .ref 6 0, slI true m_2, I (m_2.length : Int), Bv false] [some (bxPerceptronT v_2)] [¬ (n_1 < (m_2.length : Int)), ¬ ((m_2.length : Int) < n_1)] hB ⟨(by omega), h10, trivial⟩ ?_
    refine ae_then ?_
    refine aw_false rfl ?_
    refine aw_skip ?_
    refine ae_then ?_
    refine aw_seq ?_
    refine aw_seq ?_
    by_cases h11 : (m_2.length : Int) = 0
    ·refine aw_r [(1, .dec true)] [4, 6, 189] [6] [slSample true list_1, .ref 6 0, Bv true] [some (bxPerceptronT v_2)] [(m_2.length : Int) = 0] hB ⟨h11, trivial⟩ ?_
     refine ae_then ?_
     refine aw_true rfl ?_
     refine aR [] [2] [] [Bv true] [] [] hB trivial ?_
     refine aw_ret ?_
     refine ae_ret_then ?_
     refine ae_ret hB (Bv true) (by kernel_rfl) (.inl rfl) rfl (fun _ => trivial)
    by_cases h12 : (at_ m_2 (((m_2.length : Int) - 1).toNat)) = 0
    ·have hlast := htl.2.2 (by omega) (by rw [show m_2.length - 1 = ((m_2.length : Int) - 1).toNat from by omega]; exact h12)
     have hxk := (cd_ok hlast.1).1
     refine aw_r [(1, .dec false), (8, .dec false)] [4, 6, 189] [6] [slSample true list_1, .ref 6 0, Bv false] [some (bxPerceptronT v_2)] [¬ ((m_2.length : Int) = 0), inR .i64 ((m_2.length : Int) - 1), (0 : Int) ≤ ((m_2.length : Int) - 1) ∧ ((m_2.length : Int) - 1) < (m_2.length : Int), ¬ ((at_ m_2 (((m_2.length : Int) - 1).toNat)) ≠ 0)] hB ⟨h11, (inR_i64 (by omega) (by omega)), ⟨(by omega), (by omega)⟩, (fun hq => hq h12), trivial⟩ ?_
     refine ae_then ?_
     refine aw_false rfl ?_
     refine aw_skip ?_
     refine ae_then ?_
     refine aw_seq ?_
     obtain ⟨v_12, c_12, hx12_0, hc12⟩ := implMistakesOf_ok v_2 list_1 (okP_sz hxk) hs2
     have hno := mis_ok hx12_0 hlast.1
     have hnl : (v_12.length : Int) = 0 := by rw [hno.1, hlast.2]; rfl
     refine aw_r [(2, .call [(false, agPerceptron v_2), (false, slSample false list_1)] true (.tup [slI true v_12, I c_12]))] [28, 29] [] [slI true v_12, I c_12] [] [Con Try.prog 25 [agPerceptron v_2, slSample false list_1] true (.tup [slI true v_12, I c_12]) ∧ (((false = true → true = true) ∧ 1 = 1 ∧ v_2.Labels.length = v_2.Labels.length ∧ ∀ i_, i_ < v_2.Labels.length → (fS v_2.Labels) i_ = (fS v_2.Labels) i_ ∨ (AV.idsL ((fS v_2.Labels) i_) = [] ∧ leL (fun _ => none) false ((fS v_2.Labels) i_) ((fS v_2.Labels) i_))) ∧ ((false = true → true = true) ∧ 1 = 1 ∧ v_2.Weights.length = v_2.Weights.length ∧ ∀ i_, i_ < v_2.Weights.length → (fLI true v_2.Weights) i_ = (fLI false v_2.Weights) i_ ∨ (AV.idsL ((fLI false v_2.Weights) i_) = [] ∧ leL (fun _ => none) false ((fLI true v_2.Weights) i_) ((fLI false v_2.Weights) i_))) ∧ ([] : List AV) = []) ∧ ((false = true → true = true) ∧ 2 = 2 ∧ list_1.length = list_1.length ∧ ∀ i_, i_ < list_1.length → (fSample true list_1) i_ = (fSample false list_1) i_ ∨ (AV.idsL ((fSample false list_1) i_) = [] ∧ leL (fun _ => none) false ((fSample true list_1) i_) ((fSample false list_1) i_))) ∧ True] hB ⟨⟨hc12, ⟨⟨(fun h => by cases h), rfl, rfl, fun i _ => .inl rfl⟩, ⟨⟨(fun h => by cases h), rfl, rfl, fun i _ => .inr ⟨idsLI _ _, leLI _ _ _⟩⟩, rfl⟩⟩, ⟨(fun h => by cases h), rfl, rfl, fun i _ => .inr ⟨idsSample _ _, leSample _ _ _⟩⟩, trivial⟩, trivial⟩ ?_
     refine ae_then ?_
     refine aR [(1, .dec true)] [2] [] [Bv (decide ((v_12.length : Int) = 0))] [] [c_12 = 0] hB ⟨hno.2, trivial⟩ ?_
     refine aw_ret ?_
     refine ae_ret hB (Bv (decide ((v_12.length : Int) = 0))) (by kernel_rfl) (.inl (by first | rfl | (refine congrArg Bv ?_; exact decide_eq_true hnl))) rfl (fun _ => trivial)
    refine aw_r [(1, .dec false), (8, .dec true)] [4, 6, 189] [6] [slSample true list_1, .ref 6 0, Bv true] [some (bxPerceptronT v_2)] [¬ ((m_2.length : Int) = 0), inR .i64 ((m_2.length : Int) - 1), (0 : Int) ≤ ((m_2.length : Int) - 1) ∧ ((m_2.length : Int) - 1) < (m_2.length : Int), (at_ m_2 (((m_2.length : Int) - 1).toNat)) ≠ 0] hB ⟨h11, (inR_i64 (by omega) (by omega)), ⟨(by omega), (by omega)⟩, h12, trivial⟩ ?_
    refine ae_then ?_
    refine aw_true rfl ?_
    refine aR [] [2] [] [Bv true] [] [] hB trivial ?_
    refine aw_ret ?_
    refine ae_ret_then ?_
    refine ae_ret hB (Bv true) (by kernel_rfl) (.inl rfl) rfl (fun _ => trivial)
   refine aw_r [(1, .dec true)] [4, 5, 6, 7, 157] [6] [slSample true list_1, I n_1, .ref 6 0, slI true m_2, Bv true] [some (bxPerceptronT v_2)] [c_2 ≠ 0] hB ⟨h9, trivial⟩ ?_
   refine ae_then ?_
   refine aw_true rfl ?_
   refine aR [] [2] [] [Bv true] [] [] hB trivial ?_
   refine aw_ret ?_
   refine ae_ret_then ?_
   refine ae_ret hB (Bv true) (by kernel_rfl) (.inl rfl) rfl (fun _ => trivial)
  refine aw_r [(1, .dec false)] [3, 4, 5, 6, 7, 8, 12, 13, 18, 123] [3, 6, 12] [.ref 3 0, slSample true list_1, I n_1, .ref 6 0, slI true m_2, I c_2, .ref 12 0, I n_4, slI true v_6, Bv false] [some (bxPerceptronT p_1), some (bxPerceptronT v_2), some (bxPerceptronT v_4)] [¬ (c_4 = 0)] hB ⟨h2, trivial⟩ ?_
  refine ae_then ?_
  refine aw_false rfl ?_
  refine aw_skip ?_
  refine ae_then ?_
  refine aw_seq ?_
  refine aw_seq ?_
  by_cases h13 : c_2 = 0
  ·have htl := tra_law hta h13
   have hml := htl.1
   refine aw_r [(1, .dec false)] [4, 5, 6, 7, 157] [6] [slSample true list_1, I n_1, .ref 6 0, slI true m_2, Bv false] [some (bxPerceptronT v_2)] [¬ (c_2 ≠ 0)] hB ⟨(fun hq => hq h13), trivial⟩ ?_
   refine ae_then ?_
   refine aw_false rfl ?_
   refine aw_skip ?_
   refine ae_then ?_
   refine aR [] [4, 5, 6, 7, 27] [6] [slSample true list_1, I n_1, .ref 6 0, slI true m_2, I (m_2.length : Int)] [some (bxPerceptronT v_2)] [] hB trivial ?_
   refine aw_seq ?_
   refine aw_seq ?_
   by_cases h14 : (m_2.length : Int) < n_1
   ·have hlast := htl.2.2 (htl.2.1 h14).1 (htl.2.1 h14).2
    have hxk := (cd_ok hlast.1).1
    refine aw_r [(2, .dec false), (6, .dec true), (9, .dec false), (16, .dec false)] [4, 6, 7, 27, 179] [6] [slSample true list_1, .ref 6 0, slI true m_2, I (m_2.length : Int), Bv false] [some (bxPerceptronT v_2)] [¬ (n_1 < (m_2.length : Int)), (m_2.length : Int) < n_1, ¬ ((m_2.length : Int) = 0), inR .i64 ((m_2.length : Int) - 1), (0 : Int) ≤ ((m_2.length : Int) - 1) ∧ ((m_2.length : Int) - 1) < (m_2.length : Int), ¬ ((at_ m_2 (((m_2.length : Int) - 1).toNat)) ≠ 0)] hB ⟨(by omega), h14, (by have := (htl.2.1 (by omega)).1; omega), (inR_i64 (by omega) (by omega)), ⟨(by omega), (by omega)⟩, (fun hq => hq (by rw [show ((m_2.length : Int) - 1).toNat = m_2.length - 1 from by omega]; exact (htl.2.1 (by omega)).2)), trivial⟩ ?_
    refine ae_then ?_
    refine aw_false rfl ?_
    refine aw_skip ?_
    refine ae_then ?_
    refine aw_seq ?_
    refine aR [(1, .dec false), (8, .dec false)] [4, 6, 189] [6] [slSample true list_1, .ref 6 0, Bv false] [some (bxPerceptronT v_2)] [¬ ((m_2.length : Int) = 0), inR .i64 ((m_2.length : Int) - 1), (0 : Int) ≤ ((m_2.length : Int) - 1) ∧ ((m_2.length : Int) - 1) < (m_2.length : Int), ¬ ((at_ m_2 (((m_2.length : Int) - 1).toNat)) ≠ 0)] hB ⟨(by have := (htl.2.1 (by omega)).1; omega), (inR_i64 (by omega) (by omega)), ⟨(by omega), (by omega)⟩, (fun hq => hq (by rw [show ((m_2.length : Int) - 1).toNat = m_2.length - 1 from by omega]; exact (htl.2.1 (by omega)).2)), trivial⟩ ?_
    refine aw_false rfl ?_
    refine aw_skip ?_
    refine ae_then ?_
    refine aw_seq ?_
    obtain ⟨v_13, c_13, hx13_0, hc13⟩ := implMistakesOf_ok v_2 list_1 (okP_sz hxk) hs2
    have hno := mis_ok hx13_0 hlast.1
    have hnl : (v_13.length : Int) = 0 := by rw [hno.1, hlast.2]; rfl
    refine aw_r [(2, .call [(false, agPerceptron v_2), (false, slSample false list_1)] true (.tup [slI true v_13, I c_13]))] [28, 29] [] [slI true v_13, I c_13] [] [Con Try.prog 25 [agPerceptron v_2, slSample false list_1] true (.tup [slI true v_13, I c_13]) ∧ (((false = true → true = true) ∧ 1 = 1 ∧ v_2.Labels.length = v_2.Labels.length ∧ ∀ i_, i_ < v_2.Labels.length → (fS v_2.Labels) i_ = (fS v_2.Labels) i_ ∨ (AV.idsL ((fS v_2.Labels) i_) = [] ∧ leL (fun _ => none) false ((fS v_2.Labels) i_) ((fS v_2.Labels) i_))) ∧ ((false = true → true = true) ∧ 1 = 1 ∧ v_2.Weights.length = v_2.Weights.length ∧ ∀ i_, i_ < v_2.Weights.length → (fLI true v_2.Weights) i_ = (fLI false v_2.Weights) i_ ∨ (AV.idsL ((fLI false v_2.Weights) i_) = [] ∧ leL (fun _ => none) false ((fLI true v_2.Weights) i_) ((fLI false v_2.Weights) i_))) ∧ ([] : List AV) = []) ∧ ((false = true → true = true) ∧ 2 = 2 ∧ list_1.length = list_1.length ∧ ∀ i_, i_ < list_1.length → (fSample true list_1) i_ = (fSample false list_1) i_ ∨ (AV.idsL ((fSample false list_1) i_) = [] ∧ leL (fun _ => none) false ((fSample true list_1) i_) ((fSample false list_1) i_))) ∧ True] hB ⟨⟨hc13, ⟨⟨(fun h => by cases h), rfl, rfl, fun i _ => .inl rfl⟩, ⟨⟨(fun h => by cases h), rfl, rfl, fun i _ => .inr ⟨idsLI _ _, leLI _ _ _⟩⟩, rfl⟩⟩, ⟨(fun h => by cases h), rfl, rfl, fun i _ => .inr ⟨idsSample _ _, leSample _ _ _⟩⟩, trivial⟩, trivial⟩ ?_
    refine ae_then ?_
    refine aR [(1, .dec true)] [2] [] [Bv (decide ((v_13.length : Int) = 0))] [] [c_13 = 0] hB ⟨hno.2, trivial⟩ ?_
    refine aw_ret ?_
    refine ae_ret hB (Bv (decide ((v_13.length : Int) = 0))) (by kernel_rfl) (.inl (by first | rfl | (refine congrArg Bv ?_; exact decide_eq_true hnl))) rfl (fun _ => trivial)
   refine aw_r [(2, .dec false), (6, .dec false)] [4, 6, 7, 27, 179] [6] [slSample true list_1, .ref 6 0, slI true m_2, I (m_2.length : Int), Bv false] [some (bxPerceptronT v_2)] [¬ (n_1 < (m_2.length : Int)), ¬ ((m_2.length : Int) < n_1)] hB ⟨(by omega), h14, trivial⟩ ?_
   refine ae_then ?_
   refine aw_false rfl ?_
   refine aw_skip ?_
   refine ae_then ?_
   refine aw_seq ?_
   refine aw_seq ?_
   by_cases h15 : (m_2.length : Int) = 0
   ·refine aw_r [(1, .dec true)] [4, 6, 189] [6] [slSample true list_1, .ref 6 0, Bv true] [some (bxPerceptronT v_2)] [(m_2.length : Int) = 0] hB ⟨h15, trivial⟩ ?_
    refine ae_then ?_
    refine aw_true rfl ?_
    refine aR [] [2] [] [Bv true] [] [] hB trivial ?_
    refine aw_ret ?_
    refine ae_ret_then ?_
    refine ae_ret hB (Bv true) (by kernel_rfl) (.inl rfl) rfl (fun _ => trivial)
   by_cases h16 : (at_ m_2 (((m_2.length : Int) - 1).toNat)) = 0
   ·have hlast := htl.2.2 (by omega) (by rw [show m_2.length - 1 = ((m_2.length : Int) - 1).toNat from by omega]; exact h16)
    have hxk := (cd_ok hlast.1).1
    refine aw_r [(1, .dec false), (8, .dec false)] [4, 6, 189] [6] [slSample true list_1, .ref 6 0, Bv false] [some (bxPerceptronT v_2)] [¬ ((m_2.length : Int) = 0), inR .i64 ((m_2.length : Int) - 1), (0 : Int) ≤ ((m_2.length : Int) - 1) ∧ ((m_2.length : Int) - 1) < (m_2.length : Int), ¬ ((at_ m_2 (((m_2.length : Int) - 1).toNat)) ≠ 0)] hB ⟨h15, (inR_i64 (by omega) (by omega)), ⟨(by omega), (by omega)⟩, (fun hq => hq h16), trivial⟩ ?_
    refine ae_then ?_
    refine aw_false rfl ?_
    refine aw_skip ?_
    refine ae_then ?_
    refine aw_seq ?_
    obtain ⟨v_14, c_14, hx14_0, hc14⟩ := implMistakesOf_ok v_2 list_1 (okP_sz hxk) hs2
    have hno := mis_ok hx14_0 hlast.1
    have hnl : (v_14.length : Int) = 0 := by rw [hno.1, hlast.2]; rfl
    refine aw_r [(2, .call [(false, agPerceptron v_2), (false, slSample false list_1)] true (.tup [slI true v_14, I c_14]))] [28, 29] [] [slI true v_14, I c_14] [] [Con Try.prog 25 [agPerceptron v_2, slSample false list_1] true (.tup [slI true v_14, I c_14]) ∧ (((false = true → true = true) ∧ 1 = 1 ∧ v_2.Labels.length = v_2.Labels.length ∧ ∀ i_, i_ < v_2.Labels.length → (fS v_2.Labels) i_ = (fS v_2.Labels) i_ ∨ (AV.idsL ((fS v_2.Labels) i_) = [] ∧ leL (fun _ => none) false ((fS v_2.Labels) i_) ((fS v_2.Labels) i_))) ∧ ((false = true → true = true) ∧ 1 = 1 ∧ v_2.Weights.length = v_2.Weights.length ∧ ∀ i_, i_ < v_2.Weights.length → (fLI true v_2.Weights) i_ = (fLI false v_2.Weights) i_ ∨ (AV.idsL ((fLI false v_2.Weights) i_) = [] ∧ leL (fun _ => none) false ((fLI true v_2.Weights) i_) ((fLI false v_2.Weights) i_))) ∧ ([] : List AV) = []) ∧ ((false = true → true = true) ∧ 2 = 2 ∧ list_1.length = list_1.length ∧ ∀ i_, i_ < list_1.length → (fSample true list_1) i_ = (fSample false list_1) i_ ∨ (AV.idsL ((fSample false list_1) i_) = [] ∧ leL (fun _ => none) false ((fSample true list_1) i_) ((fSample false list_1) i_))) ∧ True] hB ⟨⟨hc14, ⟨⟨(fun h => by cases h), rfl, rfl, fun i _ => .inl rfl⟩, ⟨⟨(fun h => by cases h), rfl, rfl, fun i _ => .inr ⟨idsLI _ _, leLI _ _ _⟩⟩, rfl⟩⟩, ⟨(fun h => by cases h), rfl, rfl, fun i _ => .inr ⟨idsSample _ _, leSample _ _ _⟩⟩, trivial⟩, trivial⟩ ?_
    refine ae_then ?_
    refine aR [(1, .dec true)] [2] [] [Bv (decide ((v_14.length : Int) = 0))] [] [c_14 = 0] hB ⟨hno.2, trivial⟩ ?_
    refine aw_ret ?_
    refine ae_ret hB (Bv (decide ((v_14.length : Int) = 0))) (by kernel_rfl) (.inl (by first | rfl | (refine congrArg Bv ?_; exact decide_eq_true hnl))) rfl (fun _ => trivial)
   refine aw_r [(1, .dec false), (8, .dec true)] [4, 6, 189] [6] [slSample true list_1, .ref 6 0, Bv true] [some (bxPerceptronT v_2)] [¬ ((m_2.length : Int) = 0), inR .i64 ((m_2.length : Int) - 1), (0 : Int) ≤ ((m_2.length : Int) - 1) ∧ ((m_2.length : Int) - 1) < (m_2.length : Int), (at_ m_2 (((m_2.length : Int) - 1).toNat)) ≠ 0] hB ⟨h15, (inR_i64 (by omega) (by omega)), ⟨(by omega), (by omega)⟩, h16, trivial⟩ ?_
   refine ae_then ?_
   refine aw_true rfl ?_
   refine aR [] [2] [] [Bv true] [] [] hB trivial ?_
   refine aw_ret ?_
   refine ae_ret_then ?_
   refine ae_ret hB (Bv true) (by kernel_rfl) (.inl rfl) rfl (fun _ => trivial)
  refine aw_r [(1, .dec true)] [4, 5, 6, 7, 157] [6] [slSample true list_1, I n_1, .ref 6 0, slI true m_2, Bv true] [some (bxPerceptronT v_2)] [c_2 ≠ 0] hB ⟨h13, trivial⟩ ?_
  refine ae_then ?_
  refine aw_true rfl ?_
  refine aR [] [2] [] [Bv true] [] [] hB trivial ?_
  refine aw_ret ?_
  refine ae_ret_then ?_
  refine ae_ret hB (Bv true) (by kernel_rfl) (.inl rfl) rfl (fun _ => trivial)


/-! ### the row -/

theorem opens_t22 : OpensA Try.prog 22 (cLU8 false) (fun xs => ∀ y ∈ xs, inR .u8 y) :=
  opensA_slice (c := cU8) (sz := 1) Try.underlying22 (by kernel_rfl) (by decide) (fun x => ⟨rfl, by simp [oneA, cU8]⟩) (opensA_int Try.underlying5)

namespace fnEpochs
set_option maxRecDepth 100000 in
theorem lifted (os : Os) (started : os.Started) (H : Type) (enc : TypeId × Value → H) :
    ReturnsInHanded {} Try.checked os 4 .any (Rows.fnEpochsSpec.pre6 enc Try.prog Try.f4 Rows.fnEpochsRow.domain false) (Rows.fnEpochsSpec.post enc Try.prog Try.f4 false true false false) := by
  refine returnsInHanded_of_change_shaped (C := Try.checked) Try.own started (by kernel_rfl) Try.func4
    (ChangeSpec.witness6 (enc := enc) (C := Try.checked) false ⟨#[], #[.slice none 0 0], []⟩ 8 (by kernel_rfl) (by kernel_rfl) (by kernel_rfl) (by kernel_rfl)) ?_
  intro W base args ds gs before hval0 hW hcnd hsz hshp _
  have hW' := hW
  obtain ⟨p, q, hA0, hV, rfl, hfz, hnd⟩ := hW
  have hval : ∀ (j : Nat) t v, Try.f4.params[j]? = some t → args[j]? = some v → Value.okWide Try.prog W .any base t v := hval0
  have hA : DataW.TrodAll enc Try.prog W 0 (fun _ => true) true Try.f4.params.toList args.toList ds p := hA0
  rw [Try.params4] at hA hval
  obtain ⟨v0, vs0, d0, ds0, p0, q0, hargs, rfl, rfl, h0, r0⟩ := trodAll_cons hA
  obtain ⟨rfl, rfl, rfl⟩ := trodAll_nil r0
  obtain rfl : args = #[v0] := args_eq hargs
  obtain ⟨rfl, rfl⟩ := trodVars_none hV
  obtain ⟨fuel0, hf0⟩ := h0
  obtain ⟨A0, l0, c0, rfl⟩ := okWide_slice Try.underlying22 (hval 0 22 v0 rfl rfl)
  obtain ⟨x0, rx0, ok0⟩ := (opens_t22) enc W 0 _ _ _ _ _ hf0
  refine (walk_of0 (fnEpochs_con x0 ok0) (fun w _ => WX_free w) (RelTL.cons (relTL_one rx0) RelTL.nil)).mono fun e W1 ⟨he, hb⟩ => ?_
  subst he
  exact ⟨_, rfl, law_post Try.laidOut rfl Try.underlying4 (of_decide_eq_true (by kernel_rfl)) rfl hW' hb rfl⟩

theorem over : Rows.fnEpochsRow.holds Try.pinned (OpenSpec.ofChange Rows.fnEpochsSpec) :=
  OpenClaim.holds_of_wide 4 Try.f4 rfl rfl rfl rfl rfl rfl rfl ⟨rfl, rfl, rfl, rfl, rfl⟩ rfl rfl rfl rfl rfl (by kernel_rfl) Try.func4 (by kernel_rfl)
    (of_decide_eq_true (by kernel_rfl)) (by unfold Func.isWrapper; first | (rw [if_pos (by decide +kernel)]; kernel_rfl) | (rw [if_neg (by decide +kernel)]; exact ⟨rfl, rfl⟩))
    (fun os started H enc _ => lifted os started H enc)

theorem proved : Rows.FnEpochsSaid :=
  over
#print axioms proved
end fnEpochs
end Go.Proofs.Ytblhhmcplocepaa.Ax
