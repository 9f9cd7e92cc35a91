/- Contracts that the statement FnGroups reaches, part 2. No conditions. -/
import Derived.Test.YtglpfinmioppcaaAxLGroups1
import Derived.Test.YtglpfinmioppcaaAxS
import Derived.Test.YtglpfinmioppcaaSortShelf
namespace Go.Proofs.Ytglpfinmioppcaa.Ax
open Go.RowKit Go.ChangeShapes Go.WideShapes
set_option linter.unusedVariables false
set_option linter.unusedSimpArgs false


-- impl.homeOf
theorem homeOf_ok (ik : Ink) (stroke : Int) (ok : okInk' ik = true) (hs : 0 ≤ stroke ∧ stroke < (ik.Strokes.length : Int)) : Con Try.prog 23 [.agg [slStroke false ik.Strokes], I stroke] true (I (homeI ik.Strokes stroke.toNat)) := by
  have hio : stroke.toNat < ik.Strokes.length := by omega
  have hod := okI_all ok _ hio
  have hbd := boxS_all hod
  unfold okBox at hbd
  refine fn_ok (fn := Try.f23) (nt := 63) Try.func23 rfl rfl rfl rfl (by simp [taggedL, tagged, tagStroke]) fun B hB => ?_
  refine aw_lens (x := .agg [slStroke false ik.Strokes]) 0 rfl (fun len_ik => ?_)
  simp [LenOK, LenL, cPoint, cStroke, fPoint, fStroke, slPoint, slStroke] at len_ik
  refine aw_seq ?_
  refine aw_reg [(0, .new 2)] [1, 2] [2] [I stroke, .ref 2 0] [some (.box [slStroke false ik.Strokes])] [] (by kernel_rfl) hB trivial ?_
  refine ae_then ?_
  refine aw_seq ?_
  refine aw_seq ?_
  rcases Bool.eq_false_or_eq_true (dotB (at_ ik.Strokes stroke.toNat)) with h1 | h1
  ·refine aw_reg [(5, .call [(true, .agg [slPoint false ((at_ ik.Strokes stroke.toNat).Points)])] true (Bv true))] [1, 2, 18] [2] [I stroke, .ref 2 0, Bv false] [some (.box [slStroke false ik.Strokes])] [(0 : Int) ≤ stroke ∧ stroke < (ik.Strokes.length : Int), Con Try.prog 25 [.agg [slPoint false ((at_ ik.Strokes stroke.toNat).Points)]] true (Bv true) ∧ ((.agg [slPoint false ((at_ ik.Strokes stroke.toNat).Points)] : AV) = .agg [slPoint false ((at_ ik.Strokes stroke.toNat).Points)]) ∧ True] (by kernel_rfl) hB ⟨⟨(by omega), (by omega)⟩, ⟨(con_bool h1 (isDot_ok (at_ ik.Strokes stroke.toNat) (by first | assumption | exact okI_all ok _ (by omega)))), rfl, trivial⟩, trivial⟩ ?_
   refine ae_then ?_
   refine aw_false rfl ?_
   refine aw_skip ?_
   refine ae_then ?_
   refine aw_seq ?_
   refine aw_reg [(5, .call [(true, .agg [slPoint false ((at_ ik.Strokes stroke.toNat).Points)])] true (agBox (boxS (at_ ik.Strokes stroke.toNat).Points (at_ ik.Strokes stroke.toNat).Points.length))), (6, .new 5)] [1, 2, 5] [2, 5] [I stroke, .ref 2 0, .ref 5 0] [some (.box [slStroke false ik.Strokes]), some (bxBox (boxS (at_ ik.Strokes stroke.toNat).Points (at_ ik.Strokes stroke.toNat).Points.length))] [(0 : Int) ≤ stroke ∧ stroke < (ik.Strokes.length : Int), Con Try.prog 41 [.agg [slPoint false ((at_ ik.Strokes stroke.toNat).Points)]] true (agBox (boxS (at_ ik.Strokes stroke.toNat).Points (at_ ik.Strokes stroke.toNat).Points.length)) ∧ ((.agg [slPoint false ((at_ ik.Strokes stroke.toNat).Points)] : AV) = .agg [slPoint false ((at_ ik.Strokes stroke.toNat).Points)]) ∧ True] (by kernel_rfl) hB ⟨⟨(by omega), (by omega)⟩, ⟨(boxOfStroke_ok (at_ ik.Strokes stroke.toNat) (by first | assumption | exact okI_all ok _ (by omega))), rfl, trivial⟩, trivial⟩ ?_
   refine ae_then ?_
   refine aw_seq ?_
   refine aw_reg [] [1, 2, 5, 6, 7] [2, 5] [I stroke, .ref 2 0, .ref 5 0, I (-1), I 1] [some (.box [slStroke false ik.Strokes]), some (bxBox (boxS (at_ ik.Strokes stroke.toNat).Points (at_ ik.Strokes stroke.toNat).Points.length))] [] (by kernel_rfl) hB trivial ?_
   refine ae_then ?_
   refine aw_seq ?_
   refine aw_seq ?_
   refine aw_reg [] [5, 6, 7, 28, 29, 30] [5] [.ref 5 0, I (-1), I 1, .sl false 1 (stroke.toNat - 0) (cutF 0 (fStroke false ik.Strokes)), I ((stroke.toNat - 0) : Int), I 0] [some (bxBox (boxS (at_ ik.Strokes stroke.toNat).Points (at_ ik.Strokes stroke.toNat).Points.length))] [(0 : Int) ≤ 0 ∧ (0 : Int) ≤ stroke ∧ stroke ≤ (ik.Strokes.length : Int)] (by kernel_rfl) hB ⟨⟨(by omega), (by omega), (by omega)⟩, trivial⟩ ?_
   refine ae_then ?_
   refine aw_block ?_
   refine aw_loop (fun gn gσ => ∃ (home : Int) (most : Int) (t30 : Int), gn = (stroke - t30).toNat ∧ (0 ≤ t30 ∧ t30 ≤ stroke) ∧ (home = (homeG ik.Strokes (boxS (at_ ik.Strokes stroke.toNat).Points (at_ ik.Strokes stroke.toNat).Points.length) t30.toNat).1 ∧ most = (homeG ik.Strokes (boxS (at_ ik.Strokes stroke.toNat).Points (at_ ik.Strokes stroke.toNat).Points.length) t30.toNat).2) ∧ (-1 ≤ home ∧ home < t30 ∨ home = -1) ∧ gσ = mkS [(5, .ref 5 0), (6, I home), (7, I most), (28, .sl false 1 (stroke.toNat - 0) (cutF 0 (fStroke false ik.Strokes))), (29, I ((stroke.toNat - 0) : Int)), (30, I t30)] [(5, bxBox (boxS (at_ ik.Strokes stroke.toNat).Points (at_ ik.Strokes stroke.toNat).Points.length))]) ((stroke - 0).toNat) ⟨(-1), 1, 0, rfl, (by omega), (by exact ⟨rfl, rfl⟩), (by omega), rfl⟩ (fun gn gσ hI => ?_)
   obtain ⟨home, most, t30, rfl, hi0, hg0, hh0, rfl⟩ := hI
   refine aw_seq ?_
   by_cases h2 : t30 < ((stroke.toNat - 0) : Int)
   ·have hz : 0 + t30.toNat = t30.toNat := Nat.zero_add _
    have hi : (0 + t30.toNat) < ik.Strokes.length := by omega
    have hos := okI_all ok _ hi
    have hbo := boxS_all hos
    unfold okBox at hbo
    have hcm : comI (at_ ik.Strokes (0 + t30.toNat)) (boxS (at_ ik.Strokes stroke.toNat).Points (at_ ik.Strokes stroke.toNat).Points.length) = comI (at_ ik.Strokes (0 + t30.toNat)) (boxS (at_ ik.Strokes stroke.toNat).Points (at_ ik.Strokes stroke.toNat).Points.length) := rfl
    unfold comI at hcm
    rw [hz] at hcm
    refine aw_reg [(0, .dec true)] [5, 6, 7, 28, 29, 30, 31] [5] [.ref 5 0, I home, I most, .sl false 1 (stroke.toNat - 0) (cutF 0 (fStroke false ik.Strokes)), I ((stroke.toNat - 0) : Int), I t30, Bv true] [some (bxBox (boxS (at_ ik.Strokes stroke.toNat).Points (at_ ik.Strokes stroke.toNat).Points.length))] [t30 < ((stroke.toNat - 0) : Int)] (by kernel_rfl) hB ⟨h2, trivial⟩ ?_
    refine ae_then ?_
    refine aw_seq ?_
    refine aw_true rfl ?_
    refine aw_skip ?_
    refine ae_then ?_
    refine aw_seq ?_
    refine aw_block ?_
    refine aw_seq ?_
    refine aw_reg [(3, .new 9)] [5, 6, 7, 8, 9, 28, 29, 30] [5, 9] [.ref 5 0, I home, I most, I t30, .ref 9 0, .sl false 1 (stroke.toNat - 0) (cutF 0 (fStroke false ik.Strokes)), I ((stroke.toNat - 0) : Int), I t30] [some (bxBox (boxS (at_ ik.Strokes stroke.toNat).Points (at_ ik.Strokes stroke.toNat).Points.length)), some (.box [slPoint false ((at_ ik.Strokes (0 + t30.toNat)).Points)])] [(0 : Int) ≤ t30 ∧ t30 < ((stroke.toNat - 0) : Int)] (by kernel_rfl) hB ⟨⟨(by omega), (by omega)⟩, trivial⟩ ?_
    refine ae_then ?_
    refine aw_seq ?_
    refine aw_reg [(1, .call [(true, .agg [slPoint false ((at_ ik.Strokes (0 + t30.toNat)).Points)])] true (agBox (boxS (at_ ik.Strokes (0 + t30.toNat)).Points (at_ ik.Strokes (0 + t30.toNat)).Points.length))), (2, .new 10)] [5, 6, 7, 8, 9, 10, 28, 29, 30] [5, 9, 10] [.ref 5 0, I home, I most, I t30, .ref 9 0, .ref 10 0, .sl false 1 (stroke.toNat - 0) (cutF 0 (fStroke false ik.Strokes)), I ((stroke.toNat - 0) : Int), I t30] [some (bxBox (boxS (at_ ik.Strokes stroke.toNat).Points (at_ ik.Strokes stroke.toNat).Points.length)), some (.box [slPoint false ((at_ ik.Strokes (0 + t30.toNat)).Points)]), some (bxBox (boxS (at_ ik.Strokes (0 + t30.toNat)).Points (at_ ik.Strokes (0 + t30.toNat)).Points.length))] [Con Try.prog 41 [.agg [slPoint false ((at_ ik.Strokes (0 + t30.toNat)).Points)]] true (agBox (boxS (at_ ik.Strokes (0 + t30.toNat)).Points (at_ ik.Strokes (0 + t30.toNat)).Points.length)) ∧ ((.agg [slPoint false ((at_ ik.Strokes (0 + t30.toNat)).Points)] : AV) = .agg [slPoint false ((at_ ik.Strokes (0 + t30.toNat)).Points)]) ∧ True] (by kernel_rfl) hB ⟨⟨(boxOfStroke_ok (at_ ik.Strokes (0 + t30.toNat)) (by first | assumption | exact okI_all ok _ (by omega))), rfl, trivial⟩, trivial⟩ ?_
    refine ae_then ?_
    refine aw_seq ?_
    refine aw_reg [] [5, 6, 7, 8, 9, 11, 28, 29, 30] [5, 9] [.ref 5 0, I home, I most, I t30, .ref 9 0, I (((min ((boxS (at_ ik.Strokes (0 + t30.toNat)).Points (at_ ik.Strokes (0 + t30.toNat)).Points.length).X2) (((boxS (at_ ik.Strokes stroke.toNat).Points (at_ ik.Strokes stroke.toNat).Points.length).X2) + 40)) - (max ((boxS (at_ ik.Strokes (0 + t30.toNat)).Points (at_ ik.Strokes (0 + t30.toNat)).Points.length).X1) (((boxS (at_ ik.Strokes stroke.toNat).Points (at_ ik.Strokes stroke.toNat).Points.length).X1) - 40))) + 1), .sl false 1 (stroke.toNat - 0) (cutF 0 (fStroke false ik.Strokes)), I ((stroke.toNat - 0) : Int), I t30] [some (bxBox (boxS (at_ ik.Strokes stroke.toNat).Points (at_ ik.Strokes stroke.toNat).Points.length)), some (.box [slPoint false ((at_ ik.Strokes (0 + t30.toNat)).Points)])] [inR .i64 (((boxS (at_ ik.Strokes stroke.toNat).Points (at_ ik.Strokes stroke.toNat).Points.length).X2) + 40), inR .i64 (((boxS (at_ ik.Strokes stroke.toNat).Points (at_ ik.Strokes stroke.toNat).Points.length).X1) - 40), inR .i64 ((min ((boxS (at_ ik.Strokes (0 + t30.toNat)).Points (at_ ik.Strokes (0 + t30.toNat)).Points.length).X2) (((boxS (at_ ik.Strokes stroke.toNat).Points (at_ ik.Strokes stroke.toNat).Points.length).X2) + 40)) - (max ((boxS (at_ ik.Strokes (0 + t30.toNat)).Points (at_ ik.Strokes (0 + t30.toNat)).Points.length).X1) (((boxS (at_ ik.Strokes stroke.toNat).Points (at_ ik.Strokes stroke.toNat).Points.length).X1) - 40))), inR .i64 (((min ((boxS (at_ ik.Strokes (0 + t30.toNat)).Points (at_ ik.Strokes (0 + t30.toNat)).Points.length).X2) (((boxS (at_ ik.Strokes stroke.toNat).Points (at_ ik.Strokes stroke.toNat).Points.length).X2) + 40)) - (max ((boxS (at_ ik.Strokes (0 + t30.toNat)).Points (at_ ik.Strokes (0 + t30.toNat)).Points.length).X1) (((boxS (at_ ik.Strokes stroke.toNat).Points (at_ ik.Strokes stroke.toNat).Points.length).X1) - 40))) + 1)] (by kernel_rfl) hB ⟨(inR_i64 (by omega) (by omega)), (inR_i64 (by omega) (by omega)), (inR_i64 (by omega) (by omega)), (inR_i64 (by omega) (by omega)), trivial⟩ ?_
    refine ae_then ?_
    refine aw_seq ?_
    rcases Bool.eq_false_or_eq_true (dotB (at_ ik.Strokes (0 + t30.toNat))) with h3 | h3
    ·have hgn := homeG_no (ss := ik.Strokes) (d := (boxS (at_ ik.Strokes stroke.toNat).Points (at_ ik.Strokes stroke.toNat).Points.length)) hi0.1 (fun q => by have q1 := q.1; rw [← show (0 + t30.toNat) = t30.toNat by omega, h3] at q1; cases q1)
     refine aw_reg [(1, .call [(true, .agg [slPoint false ((at_ ik.Strokes (0 + t30.toNat)).Points)])] true (Bv true))] [5, 6, 7, 8, 11, 28, 29, 30, 58] [5] [.ref 5 0, I home, I most, I t30, I (((min ((boxS (at_ ik.Strokes (0 + t30.toNat)).Points (at_ ik.Strokes (0 + t30.toNat)).Points.length).X2) (((boxS (at_ ik.Strokes stroke.toNat).Points (at_ ik.Strokes stroke.toNat).Points.length).X2) + 40)) - (max ((boxS (at_ ik.Strokes (0 + t30.toNat)).Points (at_ ik.Strokes (0 + t30.toNat)).Points.length).X1) (((boxS (at_ ik.Strokes stroke.toNat).Points (at_ ik.Strokes stroke.toNat).Points.length).X1) - 40))) + 1), .sl false 1 (stroke.toNat - 0) (cutF 0 (fStroke false ik.Strokes)), I ((stroke.toNat - 0) : Int), I t30, Bv false] [some (bxBox (boxS (at_ ik.Strokes stroke.toNat).Points (at_ ik.Strokes stroke.toNat).Points.length))] [Con Try.prog 25 [.agg [slPoint false ((at_ ik.Strokes (0 + t30.toNat)).Points)]] true (Bv true) ∧ ((.agg [slPoint false ((at_ ik.Strokes (0 + t30.toNat)).Points)] : AV) = .agg [slPoint false ((at_ ik.Strokes (0 + t30.toNat)).Points)]) ∧ True] (by kernel_rfl) hB ⟨⟨(con_bool h3 (isDot_ok (at_ ik.Strokes (0 + t30.toNat)) (by first | assumption | exact okI_all ok _ (by omega)))), rfl, trivial⟩, trivial⟩ ?_
     refine ae_then ?_
     refine aw_false rfl ?_
     refine aw_skip ?_
     refine ae_block 1 ?_
     refine ae_then ?_
     refine aw_reg [] [5, 6, 7, 28, 29, 30] [5] [.ref 5 0, I home, I most, .sl false 1 (stroke.toNat - 0) (cutF 0 (fStroke false ik.Strokes)), I ((stroke.toNat - 0) : Int), I (t30 + 1)] [some (bxBox (boxS (at_ ik.Strokes stroke.toNat).Points (at_ ik.Strokes stroke.toNat).Points.length))] [inR .i64 (t30 + 1)] (by kernel_rfl) hB ⟨(inR_i64 (by omega) (by omega)), trivial⟩ ?_
     exact ae_again _ (by omega) ⟨home, most, (t30 + 1), rfl, (by omega), (by rw [hgn]; first | exact hg0 | exact ⟨rfl, by unfold comI; rw [hz]⟩), (by omega), rfl⟩
    ·by_cases h4 : most ≤ (((min ((boxS (at_ ik.Strokes (0 + t30.toNat)).Points (at_ ik.Strokes (0 + t30.toNat)).Points.length).X2) (((boxS (at_ ik.Strokes stroke.toNat).Points (at_ ik.Strokes stroke.toNat).Points.length).X2) + 40)) - (max ((boxS (at_ ik.Strokes (0 + t30.toNat)).Points (at_ ik.Strokes (0 + t30.toNat)).Points.length).X1) (((boxS (at_ ik.Strokes stroke.toNat).Points (at_ ik.Strokes stroke.toNat).Points.length).X1) - 40))) + 1)
     ·have hgn := homeG_yes (ss := ik.Strokes) (d := (boxS (at_ ik.Strokes stroke.toNat).Points (at_ ik.Strokes stroke.toNat).Points.length)) hi0.1 (by rw [← show (0 + t30.toNat) = t30.toNat by omega]; exact h3) (by unfold comI; rw [← hg0.2]; first | omega | (rw [hz] at h4; omega))
      refine aw_reg [(1, .call [(true, .agg [slPoint false ((at_ ik.Strokes (0 + t30.toNat)).Points)])] true (Bv false)), (6, .dec true)] [5, 6, 7, 8, 11, 28, 29, 30, 58] [5] [.ref 5 0, I home, I most, I t30, I (((min ((boxS (at_ ik.Strokes (0 + t30.toNat)).Points (at_ ik.Strokes (0 + t30.toNat)).Points.length).X2) (((boxS (at_ ik.Strokes stroke.toNat).Points (at_ ik.Strokes stroke.toNat).Points.length).X2) + 40)) - (max ((boxS (at_ ik.Strokes (0 + t30.toNat)).Points (at_ ik.Strokes (0 + t30.toNat)).Points.length).X1) (((boxS (at_ ik.Strokes stroke.toNat).Points (at_ ik.Strokes stroke.toNat).Points.length).X1) - 40))) + 1), .sl false 1 (stroke.toNat - 0) (cutF 0 (fStroke false ik.Strokes)), I ((stroke.toNat - 0) : Int), I t30, Bv true] [some (bxBox (boxS (at_ ik.Strokes stroke.toNat).Points (at_ ik.Strokes stroke.toNat).Points.length))] [Con Try.prog 25 [.agg [slPoint false ((at_ ik.Strokes (0 + t30.toNat)).Points)]] true (Bv false) ∧ ((.agg [slPoint false ((at_ ik.Strokes (0 + t30.toNat)).Points)] : AV) = .agg [slPoint false ((at_ ik.Strokes (0 + t30.toNat)).Points)]) ∧ True, most ≤ (((min ((boxS (at_ ik.Strokes (0 + t30.toNat)).Points (at_ ik.Strokes (0 + t30.toNat)).Points.length).X2) (((boxS (at_ ik.Strokes stroke.toNat).Points (at_ ik.Strokes stroke.toNat).Points.length).X2) + 40)) - (max ((boxS (at_ ik.Strokes (0 + t30.toNat)).Points (at_ ik.Strokes (0 + t30.toNat)).Points.length).X1) (((boxS (at_ ik.Strokes stroke.toNat).Points (at_ ik.Strokes stroke.toNat).Points.length).X1) - 40))) + 1)] (by kernel_rfl) hB ⟨⟨(con_bool h3 (isDot_ok (at_ ik.Strokes (0 + t30.toNat)) (by first | assumption | exact okI_all ok _ (by omega)))), rfl, trivial⟩, h4, trivial⟩ ?_
      refine ae_then ?_
      refine aw_true rfl ?_
      refine aw_reg [] [5, 6, 7, 28, 29, 30] [5] [.ref 5 0, I t30, I (((min ((boxS (at_ ik.Strokes (0 + t30.toNat)).Points (at_ ik.Strokes (0 + t30.toNat)).Points.length).X2) (((boxS (at_ ik.Strokes stroke.toNat).Points (at_ ik.Strokes stroke.toNat).Points.length).X2) + 40)) - (max ((boxS (at_ ik.Strokes (0 + t30.toNat)).Points (at_ ik.Strokes (0 + t30.toNat)).Points.length).X1) (((boxS (at_ ik.Strokes stroke.toNat).Points (at_ ik.Strokes stroke.toNat).Points.length).X1) - 40))) + 1), .sl false 1 (stroke.toNat - 0) (cutF 0 (fStroke false ik.Strokes)), I ((stroke.toNat - 0) : Int), I t30] [some (bxBox (boxS (at_ ik.Strokes stroke.toNat).Points (at_ ik.Strokes stroke.toNat).Points.length))] [] (by kernel_rfl) hB trivial ?_
      refine ae_block 1 ?_
      refine ae_then ?_
      refine aw_reg [] [5, 6, 7, 28, 29, 30] [5] [.ref 5 0, I t30, I (((min ((boxS (at_ ik.Strokes (0 + t30.toNat)).Points (at_ ik.Strokes (0 + t30.toNat)).Points.length).X2) (((boxS (at_ ik.Strokes stroke.toNat).Points (at_ ik.Strokes stroke.toNat).Points.length).X2) + 40)) - (max ((boxS (at_ ik.Strokes (0 + t30.toNat)).Points (at_ ik.Strokes (0 + t30.toNat)).Points.length).X1) (((boxS (at_ ik.Strokes stroke.toNat).Points (at_ ik.Strokes stroke.toNat).Points.length).X1) - 40))) + 1), .sl false 1 (stroke.toNat - 0) (cutF 0 (fStroke false ik.Strokes)), I ((stroke.toNat - 0) : Int), I (t30 + 1)] [some (bxBox (boxS (at_ ik.Strokes stroke.toNat).Points (at_ ik.Strokes stroke.toNat).Points.length))] [inR .i64 (t30 + 1)] (by kernel_rfl) hB ⟨(inR_i64 (by omega) (by omega)), trivial⟩ ?_
      exact ae_again _ (by omega) ⟨t30, (((min ((boxS (at_ ik.Strokes (0 + t30.toNat)).Points (at_ ik.Strokes (0 + t30.toNat)).Points.length).X2) (((boxS (at_ ik.Strokes stroke.toNat).Points (at_ ik.Strokes stroke.toNat).Points.length).X2) + 40)) - (max ((boxS (at_ ik.Strokes (0 + t30.toNat)).Points (at_ ik.Strokes (0 + t30.toNat)).Points.length).X1) (((boxS (at_ ik.Strokes stroke.toNat).Points (at_ ik.Strokes stroke.toNat).Points.length).X1) - 40))) + 1), (t30 + 1), rfl, (by omega), (by rw [hgn]; first | exact hg0 | exact ⟨rfl, by unfold comI; rw [hz]⟩), (by omega), rfl⟩
     ·have hgn := homeG_no (ss := ik.Strokes) (d := (boxS (at_ ik.Strokes stroke.toNat).Points (at_ ik.Strokes stroke.toNat).Points.length)) hi0.1 (fun q => by have q2 := q.2; unfold comI at q2; rw [← hg0.2] at q2; first | omega | (rw [hz] at h4; omega))
      refine aw_reg [(1, .call [(true, .agg [slPoint false ((at_ ik.Strokes (0 + t30.toNat)).Points)])] true (Bv false)), (6, .dec false)] [5, 6, 7, 8, 11, 28, 29, 30, 58] [5] [.ref 5 0, I home, I most, I t30, I (((min ((boxS (at_ ik.Strokes (0 + t30.toNat)).Points (at_ ik.Strokes (0 + t30.toNat)).Points.length).X2) (((boxS (at_ ik.Strokes stroke.toNat).Points (at_ ik.Strokes stroke.toNat).Points.length).X2) + 40)) - (max ((boxS (at_ ik.Strokes (0 + t30.toNat)).Points (at_ ik.Strokes (0 + t30.toNat)).Points.length).X1) (((boxS (at_ ik.Strokes stroke.toNat).Points (at_ ik.Strokes stroke.toNat).Points.length).X1) - 40))) + 1), .sl false 1 (stroke.toNat - 0) (cutF 0 (fStroke false ik.Strokes)), I ((stroke.toNat - 0) : Int), I t30, Bv false] [some (bxBox (boxS (at_ ik.Strokes stroke.toNat).Points (at_ ik.Strokes stroke.toNat).Points.length))] [Con Try.prog 25 [.agg [slPoint false ((at_ ik.Strokes (0 + t30.toNat)).Points)]] true (Bv false) ∧ ((.agg [slPoint false ((at_ ik.Strokes (0 + t30.toNat)).Points)] : AV) = .agg [slPoint false ((at_ ik.Strokes (0 + t30.toNat)).Points)]) ∧ True, ¬ (most ≤ (((min ((boxS (at_ ik.Strokes (0 + t30.toNat)).Points (at_ ik.Strokes (0 + t30.toNat)).Points.length).X2) (((boxS (at_ ik.Strokes stroke.toNat).Points (at_ ik.Strokes stroke.toNat).Points.length).X2) + 40)) - (max ((boxS (at_ ik.Strokes (0 + t30.toNat)).Points (at_ ik.Strokes (0 + t30.toNat)).Points.length).X1) (((boxS (at_ ik.Strokes stroke.toNat).Points (at_ ik.Strokes stroke.toNat).Points.length).X1) - 40))) + 1))] (by kernel_rfl) hB ⟨⟨(con_bool h3 (isDot_ok (at_ ik.Strokes (0 + t30.toNat)) (by first | assumption | exact okI_all ok _ (by omega)))), rfl, trivial⟩, h4, trivial⟩ ?_
      refine ae_then ?_
      refine aw_false rfl ?_
      refine aw_skip ?_
      refine ae_block 1 ?_
      refine ae_then ?_
      refine aw_reg [] [5, 6, 7, 28, 29, 30] [5] [.ref 5 0, I home, I most, .sl false 1 (stroke.toNat - 0) (cutF 0 (fStroke false ik.Strokes)), I ((stroke.toNat - 0) : Int), I (t30 + 1)] [some (bxBox (boxS (at_ ik.Strokes stroke.toNat).Points (at_ ik.Strokes stroke.toNat).Points.length))] [inR .i64 (t30 + 1)] (by kernel_rfl) hB ⟨(inR_i64 (by omega) (by omega)), trivial⟩ ?_
      exact ae_again _ (by omega) ⟨home, most, (t30 + 1), rfl, (by omega), (by rw [hgn]; first | exact hg0 | exact ⟨rfl, by unfold comI; rw [hz]⟩), (by omega), rfl⟩
   ·have hie : t30.toNat = stroke.toNat := by omega
    refine aw_reg [(0, .dec false)] [5, 6, 7, 28, 29, 30, 31] [5] [.ref 5 0, I home, I most, .sl false 1 (stroke.toNat - 0) (cutF 0 (fStroke false ik.Strokes)), I ((stroke.toNat - 0) : Int), I t30, Bv false] [some (bxBox (boxS (at_ ik.Strokes stroke.toNat).Points (at_ ik.Strokes stroke.toNat).Points.length))] [¬ (t30 < ((stroke.toNat - 0) : Int))] (by kernel_rfl) hB ⟨h2, trivial⟩ ?_
    refine ae_then ?_
    refine aw_seq ?_
    refine aw_false rfl ?_
    refine aw_exit ?_
    refine ae_exit_then ?_
    refine ae_exit_then ?_
    refine ae_exit_same ?_
    refine ae_then ?_
    refine aw_seq ?_
    refine aw_reg [] [4] [] [I home] [] [] (by kernel_rfl) hB trivial ?_
    refine ae_then ?_
    refine aw_ret ?_
    refine ae_ret hB (I home) (by kernel_rfl) (.inl (by first | (rw [homeI, if_pos (by assumption), ← hie]; exact congrArg I hg0.1) | (simp [homeI, *]; done))) rfl (fun _ => trivial)
  ·refine aw_reg [(5, .call [(true, .agg [slPoint false ((at_ ik.Strokes stroke.toNat).Points)])] true (Bv false))] [1, 2, 18] [2] [I stroke, .ref 2 0, Bv true] [some (.box [slStroke false ik.Strokes])] [(0 : Int) ≤ stroke ∧ stroke < (ik.Strokes.length : Int), Con Try.prog 25 [.agg [slPoint false ((at_ ik.Strokes stroke.toNat).Points)]] true (Bv false) ∧ ((.agg [slPoint false ((at_ ik.Strokes stroke.toNat).Points)] : AV) = .agg [slPoint false ((at_ ik.Strokes stroke.toNat).Points)]) ∧ True] (by kernel_rfl) hB ⟨⟨(by omega), (by omega)⟩, ⟨(con_bool h1 (isDot_ok (at_ ik.Strokes stroke.toNat) (by first | assumption | exact okI_all ok _ (by omega)))), rfl, trivial⟩, trivial⟩ ?_
   refine ae_then ?_
   refine aw_true rfl ?_
   refine aw_seq ?_
   refine aw_reg [] [4] [] [I (-1)] [] [] (by kernel_rfl) hB trivial ?_
   refine ae_then ?_
   refine aw_ret ?_
   refine ae_ret_then ?_
   refine ae_ret hB (I (-1)) (by kernel_rfl) (.inl (by first | (rw [homeI, if_pos (by assumption), ← hie]; exact congrArg I hg0.1) | (simp [homeI, *]; done))) rfl (fun _ => trivial)


theorem set_next {xs : List Int} {i : Int} {f : Nat → Int} {y : Int} (h0 : 0 ≤ i) (hi : i.toNat < xs.length) (h : ∀ j : Nat, (j : Int) < i → at_ xs j = f j) (hy : y = f i.toNat) : ∀ j : Nat, (j : Int) < i + 1 → at_ (xs.set i.toNat y) j = f j := fun j hj => by
  by_cases e : j = i.toNat
  · subst e; simp [at_, hi, hy]
  · have h' : ¬ i.toNat = j := fun q => e q.symm
    have : at_ (xs.set i.toNat y) j = at_ xs j := by simp [at_, List.getElem?_set, h']
    rw [this]; exact h j (by omega)

-- impl.orderOf
theorem orderOf_ok (ik : Ink) (ok : okInk' ik = true) : ∃ (order : List Int), (order = ordL ik.Strokes) ∧ CallOK Try.prog 21 [.agg [slStroke false ik.Strokes]] (lookO []) false (.arr 8301) (lookO [(8301, .arr 1 order.length (fI order))]) := by
  have hil := okI_len ok
  have hh : ∃ r : (List Int), ((r = ordL ik.Strokes) ∧ (True)) ∧ CallOK Try.prog 21 [.agg [slStroke false ik.Strokes]] (lookO []) false (.arr 8301) (lookO [(8301, .arr 1 r.length (fI r))]) := by
    refine fn_okX (Φ := fun r : (List Int) => (r = ordL ik.Strokes) ∧ (True)) [] (fun r => [(8301, .arr 1 r.length (fI r))]) (fn := Try.f21) (nt := 58) Try.func21 rfl rfl (args := [.agg [slStroke false ik.Strokes]]) rfl (allcons (.inl ⟨rfl, by simp [tagged, taggedL, tagStroke]⟩) allnil) (res := fun r => .arr 8301) ?_
    refine x_seq ?_
    refine x_reg [(0, .new 1)] [1] [1] [.ref 1 0] [some (.box [slStroke false ik.Strokes])] [] (by kernel_rfl) trivial ?_
    refine xe_then ?_
    refine x_seq ?_
    refine x_reg [(3, .new 12)] [1, 3] [1, 12] [.ref 1 0, .arr 12] [some (.box [slStroke false ik.Strokes]), some (.arr 1 ((ik.Strokes.length : Int).toNat) (fun _ => [I 0]))] [(0 : Int) ≤ (ik.Strokes.length : Int) ∧ ((ik.Strokes.length : Int) : Int) ≤ (ik.Strokes.length : Int) ∧ (8 : Int) * (ik.Strokes.length : Int) ≤ 281474976710656 ∧ (ik.Strokes.length : Int) ≤ 9223372036854775807] (by kernel_rfl) ⟨⟨(by omega), (by omega), (by omega), (by omega)⟩, trivial⟩ ?_
    refine xe_then ?_
    refine x_seq ?_
    refine x_seq ?_
    refine x_reg [] [1, 3, 15, 16] [1, 12] [.ref 1 0, .arr 12, I (ik.Strokes.length : Int), I 0] [some (.box [slStroke false ik.Strokes]), some (.arr 1 ((ik.Strokes.length : Int).toNat) (fun _ => [I 0]))] [] (by kernel_rfl) trivial ?_
    refine xe_then ?_
    refine x_block ?_
    refine x_weak [] (T := [(1, .ref 1 0), (3, .arr 12), (15, I (ik.Strokes.length : Int)), (16, I 0)]) (O := [(1, .box [slStroke false ik.Strokes]), (12, .arr 1 ((List.replicate ((ik.Strokes.length : Int).toNat) 0).length) (fI (List.replicate ((ik.Strokes.length : Int).toNat) 0)))]) rfl (⟨.inl rfl, .inl rfl, .inl rfl, .inl rfl, trivial⟩) (⟨.inl rfl, .inr ⟨rfl, (by first | rfl | (simp; done) | (simp; omega) | omega), fun i_ hi_ => .inl (const_enc (enc := cI) rfl i_ hi_)⟩, trivial⟩) ?_
    refine x_loop (X := Int × (List Int)) (fun x => mkS [(1, .ref 1 0), (3, .arr 12), (15, I (ik.Strokes.length : Int)), (16, I x.1)] [(1, .box [slStroke false ik.Strokes]), (12, .arr 1 x.2.length (fI x.2))]) (fun x => (0 ≤ x.1 ∧ x.1 ≤ (ik.Strokes.length : Int)) ∧ (x.2.length = ik.Strokes.length) ∧ (∀ j : Nat, (j : Int) < x.1 → at_ x.2 j = homeI ik.Strokes j) ∧ True) (fun x => ((ik.Strokes.length : Int) - x.1).toNat) (0, (List.replicate ((ik.Strokes.length : Int).toNat) 0)) rfl (show (0 ≤ (0 : Int) ∧ (0 : Int) ≤ (ik.Strokes.length : Int)) ∧ ((List.replicate ((ik.Strokes.length : Int).toNat) 0).length = ik.Strokes.length) ∧ (∀ j : Nat, (j : Int) < (0 : Int) → at_ (List.replicate ((ik.Strokes.length : Int).toNat) 0) j = homeI ik.Strokes j) ∧ True from ⟨(by omega), (by simp), (by intro j hj; omega), trivial⟩) (fun x hI => ?_)
    obtain ⟨t16, homes⟩ := x
    obtain ⟨hi0, hl0, hh0, _⟩ : (0 ≤ t16 ∧ t16 ≤ (ik.Strokes.length : Int)) ∧ (homes.length = ik.Strokes.length) ∧ (∀ j : Nat, (j : Int) < t16 → at_ homes j = homeI ik.Strokes j) ∧ True := hI
    show XW _ _ _ _ (mkS [(1, .ref 1 0), (3, .arr 12), (15, I (ik.Strokes.length : Int)), (16, I t16)] [(1, .box [slStroke false ik.Strokes]), (12, .arr 1 homes.length (fI homes))]) _ _
    refine x_seq ?_
    by_cases h1 : t16 < (ik.Strokes.length : Int)
    ·have hi : t16.toNat < ik.Strokes.length := by omega
     have hix : t16.toNat < homes.length := by omega
     refine x_reg [(0, .dec true)] [1, 3, 15, 16, 17] [1, 12] [.ref 1 0, .arr 12, I (ik.Strokes.length : Int), I t16, Bv true] [some (.box [slStroke false ik.Strokes]), some (.arr 1 homes.length (fI homes))] [t16 < (ik.Strokes.length : Int)] (by kernel_rfl) ⟨h1, trivial⟩ ?_
     refine xe_then ?_
     refine x_seq ?_
     refine x_true rfl ?_
     refine x_skip ?_
     refine xe_then ?_
     refine x_seq ?_
     refine x_block ?_
     refine x_seq ?_
     refine x_reg [] [1, 3, 4, 15, 16] [1, 12] [.ref 1 0, .arr 12, I t16, I (ik.Strokes.length : Int), I t16] [some (.box [slStroke false ik.Strokes]), some (.arr 1 homes.length (fI homes))] [] (by kernel_rfl) trivial ?_
     refine xe_then ?_
     refine x_reg [(4, .call [(true, .agg [slStroke false ik.Strokes]), (true, I t16)] true (I (homeI ik.Strokes t16.toNat)))] [1, 3, 15, 16] [1, 12] [.ref 1 0, .arr 12, I (ik.Strokes.length : Int), I t16] [some (.box [slStroke false ik.Strokes]), some (.arr 1 homes.length (fun q => bif Nat.beq q t16.toNat then [I (homeI ik.Strokes t16.toNat)] else (fI homes) q))] [Con Try.prog 23 [.agg [slStroke false ik.Strokes], I t16] true (I (homeI ik.Strokes t16.toNat)) ∧ ((.agg [slStroke false ik.Strokes] : AV) = .agg [slStroke false ik.Strokes]) ∧ ((I t16 : AV) = I t16) ∧ True, (0 : Int) ≤ t16 ∧ t16 < (homes.length : Int), t16.toNat < homes.length] (by kernel_rfl) ⟨⟨(homeOf_ok ik t16 ok (by omega)), rfl, rfl, trivial⟩, ⟨(by omega), (by omega)⟩, (by omega), trivial⟩ ?_
     refine xe_block 1 ?_
     refine xe_then ?_
     refine x_weak [] (T := [(1, .ref 1 0), (3, .arr 12), (15, I (ik.Strokes.length : Int)), (16, I t16)]) (O := [(1, .box [slStroke false ik.Strokes]), (12, .arr 1 ((homes.set t16.toNat (homeI ik.Strokes t16.toNat)).length) (fI (homes.set t16.toNat (homeI ik.Strokes t16.toNat))))]) rfl (⟨.inl rfl, .inl rfl, .inl rfl, .inl rfl, trivial⟩) (⟨.inl rfl, .inr ⟨rfl, (by first | rfl | (simp; done) | (simp; omega) | omega), fun i_ hi_ => .inl (upd_enc (enc := cI) rfl i_ hi_)⟩, trivial⟩) ?_
     refine x_reg [] [1, 3, 15, 16] [1, 12] [.ref 1 0, .arr 12, I (ik.Strokes.length : Int), I (t16 + 1)] [some (.box [slStroke false ik.Strokes]), some (.arr 1 ((homes.set t16.toNat (homeI ik.Strokes t16.toNat)).length) (fI (homes.set t16.toNat (homeI ik.Strokes t16.toNat))))] [inR .i64 (t16 + 1)] (by kernel_rfl) ⟨(inR_i64 (by omega) (by omega)), trivial⟩ ?_
     exact xe_again ((t16 + 1), (homes.set t16.toNat (homeI ik.Strokes t16.toNat))) rfl (show (0 ≤ (t16 + 1) ∧ (t16 + 1) ≤ (ik.Strokes.length : Int)) ∧ ((homes.set t16.toNat (homeI ik.Strokes t16.toNat)).length = ik.Strokes.length) ∧ (∀ j : Nat, (j : Int) < (t16 + 1) → at_ (homes.set t16.toNat (homeI ik.Strokes t16.toNat)) j = homeI ik.Strokes j) ∧ True from ⟨(by omega), (by simp; omega), (by exact set_next hi0.1 (by omega) hh0 rfl), trivial⟩) (by show (((ik.Strokes.length : Int) - (t16 + 1)).toNat : Nat) < ((ik.Strokes.length : Int) - t16).toNat; omega)
    ·have hfin : homes = homesL ik.Strokes := homesL_of hl0 (fun j hj => hh0 j (by omega))
     subst hfin
     refine x_reg [(0, .dec false)] [1, 3, 15, 16, 17] [1, 12] [.ref 1 0, .arr 12, I (ik.Strokes.length : Int), I t16, Bv false] [some (.box [slStroke false ik.Strokes]), some (.arr 1 ((homesL ik.Strokes).length) (fI (homesL ik.Strokes)))] [¬ (t16 < (ik.Strokes.length : Int))] (by kernel_rfl) ⟨h1, trivial⟩ ?_
     refine xe_then ?_
     refine x_seq ?_
     refine x_false rfl ?_
     refine x_exit ?_
     refine xe_exit_then ?_
     refine xe_loop_exit ?_
     refine xe_exit_same ?_
     refine xe_then ?_
     refine x_seq ?_
     refine x_reg [] [1, 3, 5] [1, 12] [.ref 1 0, .arr 12, nilA] [some (.box [slStroke false ik.Strokes]), some (.arr 1 ((homesL ik.Strokes).length) (fI (homesL ik.Strokes)))] [] (by kernel_rfl) trivial ?_
     refine xe_then ?_
     refine x_seq ?_
     refine x_seq ?_
     refine x_reg [] [3, 5, 28, 29] [12] [.arr 12, nilA, I (ik.Strokes.length : Int), I 0] [some (.arr 1 ((homesL ik.Strokes).length) (fI (homesL ik.Strokes)))] [] (by kernel_rfl) trivial ?_
     refine xe_then ?_
     refine x_block ?_
     refine x_nil 5 705 1 (fun _ => []) (by kernel_rfl) ?_
     refine x_weak [] (T := [(3, slI true (homesL ik.Strokes)), (5, .arr 705), (28, I (ik.Strokes.length : Int)), (29, I 0)]) (O := [(705, .arr 1 (([] : List Int).length) (fI ([] : List Int)))]) rfl (⟨.inr ⟨(fun _ => rfl), rfl, rfl, fun i _ => .inl rfl⟩, .inl rfl, .inl rfl, .inl rfl, trivial⟩) (⟨.inr ⟨rfl, (by first | rfl | (simp; done) | (simp; omega) | omega), fun i_ hi_ => absurd hi_ (Nat.not_lt_zero _)⟩, trivial⟩) ?_
     refine x_loop (X := (List Int) × Int) (fun x => mkS [(3, slI true (homesL ik.Strokes)), (5, .arr 705), (28, I (ik.Strokes.length : Int)), (29, I x.2)] [(705, .arr 1 x.1.length (fI x.1))]) (fun x => (0 ≤ x.2 ∧ x.2 ≤ (ik.Strokes.length : Int)) ∧ (x.1 = ordP (homesL ik.Strokes) x.2.toNat) ∧ True) (fun x => ((ik.Strokes.length : Int) - x.2).toNat) (([] : List Int), 0) rfl (show (0 ≤ (0 : Int) ∧ (0 : Int) ≤ (ik.Strokes.length : Int)) ∧ (([] : List Int) = ordP (homesL ik.Strokes) (0 : Int).toNat) ∧ True from ⟨(by omega), (by rfl), trivial⟩) (fun x hI => ?_)
     obtain ⟨order, t29⟩ := x
     obtain ⟨hi1, ho1, _⟩ : (0 ≤ t29 ∧ t29 ≤ (ik.Strokes.length : Int)) ∧ (order = ordP (homesL ik.Strokes) t29.toNat) ∧ True := hI
     show XW _ _ _ _ (mkS [(3, slI true (homesL ik.Strokes)), (5, .arr 705), (28, I (ik.Strokes.length : Int)), (29, I t29)] [(705, .arr 1 order.length (fI order))]) _ _
     refine x_seq ?_
     by_cases h2 : t29 < (ik.Strokes.length : Int)
     ·have hi : t29.toNat < ik.Strokes.length := by omega
      have hol := ordP_len (homesL ik.Strokes) t29.toNat
      rw [homesL_len] at hol
      have hlb := Nat.mul_le_mul (show t29.toNat ≤ 16 by omega) (show ik.Strokes.length + 1 ≤ 17 by omega)
      have hrl := rowP_len (homesL ik.Strokes) t29.toNat ik.Strokes.length
      have hhl := homesL_len ik.Strokes
      have holn : order.length = (ordP (homesL ik.Strokes) t29.toNat).length := by rw [ho1]
      refine x_reg [(0, .dec true)] [3, 5, 28, 29, 30] [705] [slI true (homesL ik.Strokes), .arr 705, I (ik.Strokes.length : Int), I t29, Bv true] [some (.arr 1 order.length (fI order))] [t29 < (ik.Strokes.length : Int)] (by kernel_rfl) ⟨h2, trivial⟩ ?_
      refine xe_then ?_
      refine x_seq ?_
      refine x_true rfl ?_
      refine x_skip ?_
      refine xe_then ?_
      refine x_seq ?_
      refine x_block ?_
      refine x_seq ?_
      refine x_reg [] [3, 5, 6, 28, 29] [705] [slI true (homesL ik.Strokes), .arr 705, I t29, I (ik.Strokes.length : Int), I t29] [some (.arr 1 order.length (fI order))] [] (by kernel_rfl) trivial ?_
      refine xe_then ?_
      refine x_seq ?_
      refine x_seq ?_
      by_cases h3 : 0 ≤ (at_ (homesL ik.Strokes) t29.toNat)
      ·refine x_reg [(4, .dec true)] [3, 5, 6, 28, 29, 36] [705] [slI true (homesL ik.Strokes), .arr 705, I t29, I (ik.Strokes.length : Int), I t29, Bv true] [some (.arr 1 order.length (fI order))] [(0 : Int) ≤ t29 ∧ t29 < (((homesL ik.Strokes).length) : Int), 0 ≤ (at_ (homesL ik.Strokes) t29.toNat)] (by kernel_rfl) ⟨⟨(by omega), (by omega)⟩, h3, trivial⟩ ?_
       refine xe_then ?_
       refine x_true rfl ?_
       refine x_exit ?_
       refine xe_exit_then ?_
       refine xe_exit_same ?_
       refine xe_then ?_
       refine x_reg [] [3, 5, 28, 29] [705] [slI true (homesL ik.Strokes), .arr 705, I (ik.Strokes.length : Int), I (t29 + 1)] [some (.arr 1 order.length (fI order))] [inR .i64 (t29 + 1)] (by kernel_rfl) ⟨(inR_i64 (by omega) (by omega)), trivial⟩ ?_
       exact xe_again (order, (t29 + 1)) rfl (show (0 ≤ (t29 + 1) ∧ (t29 + 1) ≤ (ik.Strokes.length : Int)) ∧ (order = ordP (homesL ik.Strokes) (t29 + 1).toNat) ∧ True from ⟨(by omega), (by first | (rw [ordP_no hi1.1 (by omega)]; exact ho1) | (rw [ordP_yes hi1.1 (homesL_len _).symm (by omega), ho2, hie])), trivial⟩) (by show (((ik.Strokes.length : Int) - (t29 + 1)).toNat : Nat) < ((ik.Strokes.length : Int) - t29).toNat; omega)
      ·refine x_reg [(4, .dec false)] [3, 5, 6, 28, 29, 36] [705] [slI true (homesL ik.Strokes), .arr 705, I t29, I (ik.Strokes.length : Int), I t29, Bv false] [some (.arr 1 order.length (fI order))] [(0 : Int) ≤ t29 ∧ t29 < (((homesL ik.Strokes).length) : Int), ¬ (0 ≤ (at_ (homesL ik.Strokes) t29.toNat))] (by kernel_rfl) ⟨⟨(by omega), (by omega)⟩, h3, trivial⟩ ?_
       refine xe_then ?_
       refine x_false rfl ?_
       refine x_skip ?_
       refine xe_then ?_
       refine x_seq ?_
       refine x_reg [(2, .new 39), (3, .new 40)] [3, 5, 6, 28, 29] [40] [slI true (homesL ik.Strokes), .arr 40, I t29, I (ik.Strokes.length : Int), I t29] [some (.arr 1 (order.length + 1) (catF order.length (fI order) (litF [I t29] 1)))] [(order.length + 1) * 8 ≤ 140737488355328] (by kernel_rfl) ⟨(by omega), trivial⟩ ?_
       refine xe_then ?_
       refine x_seq ?_
       refine x_reg [] [3, 5, 6, 28, 29, 41, 42, 43] [40] [slI true (homesL ik.Strokes), .arr 40, I t29, I (ik.Strokes.length : Int), I t29, slI true (homesL ik.Strokes), I (((homesL ik.Strokes).length) : Int), I 0] [some (.arr 1 (order.length + 1) (catF order.length (fI order) (litF [I t29] 1)))] [] (by kernel_rfl) trivial ?_
       refine xe_then ?_
       refine x_block ?_
       refine x_weak [] (T := [(3, slI true (homesL ik.Strokes)), (5, .arr 40), (6, I t29), (28, I (ik.Strokes.length : Int)), (29, I t29), (41, slI true (homesL ik.Strokes)), (42, I (((homesL ik.Strokes).length) : Int)), (43, I 0)]) (O := [(40, .arr 1 ((order ++ [t29]).length) (fI (order ++ [t29])))]) rfl (⟨.inl rfl, .inl rfl, .inl rfl, .inl rfl, .inl rfl, .inl rfl, .inl rfl, .inl rfl, trivial⟩) (⟨.inr ⟨rfl, (by first | rfl | (simp; done) | (simp; omega) | omega), fun i_ hi_ => .inl (cat_snoc (enc := cI) (xs := order) rfl i_ hi_)⟩, trivial⟩) ?_
       refine x_loop (X := (List Int) × Int) (fun x => mkS [(3, slI true (homesL ik.Strokes)), (5, .arr 40), (6, I t29), (28, I (ik.Strokes.length : Int)), (29, I t29), (41, slI true (homesL ik.Strokes)), (42, I (((homesL ik.Strokes).length) : Int)), (43, I x.2)] [(40, .arr 1 x.1.length (fI x.1))]) (fun x => (0 ≤ x.2 ∧ x.2 ≤ (ik.Strokes.length : Int)) ∧ (x.1 = (ordP (homesL ik.Strokes) t29.toNat ++ [t29]) ++ rowP (homesL ik.Strokes) t29.toNat x.2.toNat) ∧ True) (fun x => ((ik.Strokes.length : Int) - x.2).toNat) ((order ++ [t29]), 0) rfl (show (0 ≤ (0 : Int) ∧ (0 : Int) ≤ (ik.Strokes.length : Int)) ∧ ((order ++ [t29]) = (ordP (homesL ik.Strokes) t29.toNat ++ [t29]) ++ rowP (homesL ik.Strokes) t29.toNat (0 : Int).toNat) ∧ True from ⟨(by omega), (by rw [ho1]; exact (List.append_nil _).symm), trivial⟩) (fun x hI => ?_)
       obtain ⟨order', t43⟩ := x
       obtain ⟨hi2, ho2, _⟩ : (0 ≤ t43 ∧ t43 ≤ (ik.Strokes.length : Int)) ∧ (order' = (ordP (homesL ik.Strokes) t29.toNat ++ [t29]) ++ rowP (homesL ik.Strokes) t29.toNat t43.toNat) ∧ True := hI
       show XW _ _ _ _ (mkS [(3, slI true (homesL ik.Strokes)), (5, .arr 40), (6, I t29), (28, I (ik.Strokes.length : Int)), (29, I t29), (41, slI true (homesL ik.Strokes)), (42, I (((homesL ik.Strokes).length) : Int)), (43, I t43)] [(40, .arr 1 order'.length (fI order'))]) _ _
       refine x_seq ?_
       by_cases h4 : t43 < (((homesL ik.Strokes).length) : Int)
       ·have hi2x : t43.toNat < ik.Strokes.length := by omega
        have hrp := rowP_len (homesL ik.Strokes) t29.toNat t43.toNat
        have hon := congrArg List.length ho2
        simp only [List.length_append, List.length_cons, List.length_nil] at hon
        refine x_reg [(0, .dec true)] [3, 5, 6, 28, 29, 41, 42, 43, 44] [40] [slI true (homesL ik.Strokes), .arr 40, I t29, I (ik.Strokes.length : Int), I t29, slI true (homesL ik.Strokes), I (((homesL ik.Strokes).length) : Int), I t43, Bv true] [some (.arr 1 order'.length (fI order'))] [t43 < (((homesL ik.Strokes).length) : Int)] (by kernel_rfl) ⟨h4, trivial⟩ ?_
        refine xe_then ?_
        refine x_seq ?_
        refine x_true rfl ?_
        refine x_skip ?_
        refine xe_then ?_
        refine x_seq ?_
        refine x_block ?_
        refine x_seq ?_
        refine x_reg [] [3, 5, 6, 7, 8, 28, 29, 41, 42, 43] [40] [slI true (homesL ik.Strokes), .arr 40, I t29, I t43, I (at_ (homesL ik.Strokes) t43.toNat), I (ik.Strokes.length : Int), I t29, slI true (homesL ik.Strokes), I (((homesL ik.Strokes).length) : Int), I t43] [some (.arr 1 order'.length (fI order'))] [(0 : Int) ≤ t43 ∧ t43 < (((homesL ik.Strokes).length) : Int)] (by kernel_rfl) ⟨⟨(by omega), (by omega)⟩, trivial⟩ ?_
        refine xe_then ?_
        refine x_seq ?_
        by_cases h5 : (at_ (homesL ik.Strokes) t43.toNat) = t29
        ·refine x_reg [(2, .dec true)] [3, 5, 6, 7, 28, 29, 41, 42, 43, 50] [40] [slI true (homesL ik.Strokes), .arr 40, I t29, I t43, I (ik.Strokes.length : Int), I t29, slI true (homesL ik.Strokes), I (((homesL ik.Strokes).length) : Int), I t43, Bv true] [some (.arr 1 order'.length (fI order'))] [(at_ (homesL ik.Strokes) t43.toNat) = t29] (by kernel_rfl) ⟨h5, trivial⟩ ?_
         refine xe_then ?_
         refine x_true rfl ?_
         refine x_reg [(2, .new 53), (3, .new 54)] [3, 5, 6, 28, 29, 41, 42, 43] [54] [slI true (homesL ik.Strokes), .arr 54, I t29, I (ik.Strokes.length : Int), I t29, slI true (homesL ik.Strokes), I (((homesL ik.Strokes).length) : Int), I t43] [some (.arr 1 (order'.length + 1) (catF order'.length (fI order') (litF [I t43] 1)))] [(order'.length + 1) * 8 ≤ 140737488355328] (by kernel_rfl) ⟨(by omega), trivial⟩ ?_
         refine xe_block 5 ?_
         refine xe_then ?_
         refine x_reg [] [3, 5, 6, 28, 29, 41, 42, 43] [54] [slI true (homesL ik.Strokes), .arr 54, I t29, I (ik.Strokes.length : Int), I t29, slI true (homesL ik.Strokes), I (((homesL ik.Strokes).length) : Int), I (t43 + 1)] [some (.arr 1 (order'.length + 1) (catF order'.length (fI order') (litF [I t43] 1)))] [inR .i64 (t43 + 1)] (by kernel_rfl) ⟨(inR_i64 (by omega) (by omega)), trivial⟩ ?_
         refine xe_weak [(40, 54)] (T := [(3, slI true (homesL ik.Strokes)), (5, .arr 40), (6, I t29), (28, I (ik.Strokes.length : Int)), (29, I t29), (41, slI true (homesL ik.Strokes)), (42, I (((homesL ik.Strokes).length) : Int)), (43, I (t43 + 1))]) (O := [(40, .arr 1 ((order' ++ [t43]).length) (fI (order' ++ [t43])))]) rfl (⟨.inl rfl, .inl rfl, .inl rfl, .inl rfl, .inl rfl, .inl rfl, .inl rfl, .inl rfl, trivial⟩) (⟨.inr ⟨rfl, (by first | rfl | (simp; done) | (simp; omega) | omega), fun i_ hi_ => .inl (cat_snoc (enc := cI) (xs := order') rfl i_ hi_)⟩, trivial⟩) (xe_again ((order' ++ [t43]), (t43 + 1)) rfl (show (0 ≤ (t43 + 1) ∧ (t43 + 1) ≤ (ik.Strokes.length : Int)) ∧ ((order' ++ [t43]) = (ordP (homesL ik.Strokes) t29.toNat ++ [t29]) ++ rowP (homesL ik.Strokes) t29.toNat (t43 + 1).toNat) ∧ True from ⟨(by omega), (by first | (rw [rowP_yes hi2.1 hi1.1 (by omega), ← List.append_assoc, ← ho2]; done) | (rw [rowP_no hi2.1 hi1.1 (by omega)]; exact ho2)), trivial⟩) (by show (((ik.Strokes.length : Int) - (t43 + 1)).toNat : Nat) < ((ik.Strokes.length : Int) - t43).toNat; omega))
        ·refine x_reg [(2, .dec false)] [3, 5, 6, 7, 28, 29, 41, 42, 43, 50] [40] [slI true (homesL ik.Strokes), .arr 40, I t29, I t43, I (ik.Strokes.length : Int), I t29, slI true (homesL ik.Strokes), I (((homesL ik.Strokes).length) : Int), I t43, Bv false] [some (.arr 1 order'.length (fI order'))] [¬ ((at_ (homesL ik.Strokes) t43.toNat) = t29)] (by kernel_rfl) ⟨h5, trivial⟩ ?_
         refine xe_then ?_
         refine x_false rfl ?_
         refine x_skip ?_
         refine xe_block 5 ?_
         refine xe_then ?_
         refine x_reg [] [3, 5, 6, 28, 29, 41, 42, 43] [40] [slI true (homesL ik.Strokes), .arr 40, I t29, I (ik.Strokes.length : Int), I t29, slI true (homesL ik.Strokes), I (((homesL ik.Strokes).length) : Int), I (t43 + 1)] [some (.arr 1 order'.length (fI order'))] [inR .i64 (t43 + 1)] (by kernel_rfl) ⟨(inR_i64 (by omega) (by omega)), trivial⟩ ?_
         exact xe_again (order', (t43 + 1)) rfl (show (0 ≤ (t43 + 1) ∧ (t43 + 1) ≤ (ik.Strokes.length : Int)) ∧ (order' = (ordP (homesL ik.Strokes) t29.toNat ++ [t29]) ++ rowP (homesL ik.Strokes) t29.toNat (t43 + 1).toNat) ∧ True from ⟨(by omega), (by first | (rw [rowP_yes hi2.1 hi1.1 (by omega), ← List.append_assoc, ← ho2]; done) | (rw [rowP_no hi2.1 hi1.1 (by omega)]; exact ho2)), trivial⟩) (by show (((ik.Strokes.length : Int) - (t43 + 1)).toNat : Nat) < ((ik.Strokes.length : Int) - t43).toNat; omega)
       ·have hie : t43.toNat = ik.Strokes.length := by omega
        refine x_reg [(0, .dec false)] [3, 5, 6, 28, 29, 41, 42, 43, 44] [40] [slI true (homesL ik.Strokes), .arr 40, I t29, I (ik.Strokes.length : Int), I t29, slI true (homesL ik.Strokes), I (((homesL ik.Strokes).length) : Int), I t43, Bv false] [some (.arr 1 order'.length (fI order'))] [¬ (t43 < (((homesL ik.Strokes).length) : Int))] (by kernel_rfl) ⟨h4, trivial⟩ ?_
        refine xe_then ?_
        refine x_seq ?_
        refine x_false rfl ?_
        refine x_exit ?_
        refine xe_exit_then ?_
        refine xe_loop_exit ?_
        refine xe_exit_same ?_
        refine xe_block 3 ?_
        refine xe_then ?_
        refine x_reg [] [3, 5, 28, 29] [40] [slI true (homesL ik.Strokes), .arr 40, I (ik.Strokes.length : Int), I (t29 + 1)] [some (.arr 1 order'.length (fI order'))] [inR .i64 (t29 + 1)] (by kernel_rfl) ⟨(inR_i64 (by omega) (by omega)), trivial⟩ ?_
        refine xe_weak [(705, 40)] (T := [(3, slI true (homesL ik.Strokes)), (5, .arr 705), (28, I (ik.Strokes.length : Int)), (29, I (t29 + 1))]) (O := [(705, .arr 1 order'.length (fI order'))]) rfl (⟨.inl rfl, .inl rfl, .inl rfl, .inl rfl, trivial⟩) (⟨.inl rfl, trivial⟩) (xe_again (order', (t29 + 1)) rfl (show (0 ≤ (t29 + 1) ∧ (t29 + 1) ≤ (ik.Strokes.length : Int)) ∧ (order' = ordP (homesL ik.Strokes) (t29 + 1).toNat) ∧ True from ⟨(by omega), (by first | (rw [ordP_no hi1.1 (by omega)]; exact ho1) | (rw [ordP_yes hi1.1 (homesL_len _).symm (by omega), ho2, hie])), trivial⟩) (by show (((ik.Strokes.length : Int) - (t29 + 1)).toNat : Nat) < ((ik.Strokes.length : Int) - t29).toNat; omega))
     ·have hie : t29.toNat = ik.Strokes.length := by omega
      refine x_reg [(0, .dec false)] [3, 5, 28, 29, 30] [705] [slI true (homesL ik.Strokes), .arr 705, I (ik.Strokes.length : Int), I t29, Bv false] [some (.arr 1 order.length (fI order))] [¬ (t29 < (ik.Strokes.length : Int))] (by kernel_rfl) ⟨h2, trivial⟩ ?_
      refine xe_then ?_
      refine x_seq ?_
      refine x_false rfl ?_
      refine x_exit ?_
      refine xe_exit_then ?_
      refine xe_loop_exit ?_
      refine xe_exit_same ?_
      refine xe_then ?_
      refine x_seq ?_
      refine x_reg [] [2] [705] [.arr 705] [some (.arr 1 order.length (fI order))] [] (by kernel_rfl) trivial ?_
      refine xe_then ?_
      refine x_ret ?_
      refine xe_weak [(8301, 705)] (T := [(2, .arr 8301)]) (O := [(8301, .arr 1 order.length (fI order))]) rfl (⟨.inl rfl, trivial⟩) (⟨.inl rfl, trivial⟩) ?_
      refine xe_end order (show (order = ordL ik.Strokes) ∧ (True) from ⟨(by rw [ho1, hie]; rfl), trivial⟩) (⟨.inl rfl, trivial⟩) (.arr 8301) (by kernel_rfl) (.inl rfl) (fun h => by cases h) (fun h => by cases h)
  obtain ⟨order, ⟨hh0, _⟩, hc⟩ := hh
  exact ⟨order, hh0, hc⟩


-- impl.OrderOf
theorem OrderOf_ok (ik : Ink) (ok : okInk' ik = true) : ∃ (order : List Int), (order = ordL ik.Strokes) ∧ CallOK Try.prog 6 [.agg [slStroke false ik.Strokes]] (lookO []) false (.tup [.arr 8301, I 0]) (lookO [(8301, .arr 1 order.length (fI order))]) := by
  have hh : ∃ r : (List Int), ((r = ordL ik.Strokes) ∧ (True)) ∧ CallOK Try.prog 6 [.agg [slStroke false ik.Strokes]] (lookO []) false (.tup [.arr 8301, I 0]) (lookO [(8301, .arr 1 r.length (fI r))]) := by
    refine fn_okX (Φ := fun r : (List Int) => (r = ordL ik.Strokes) ∧ (True)) [] (fun r => [(8301, .arr 1 r.length (fI r))]) (fn := Try.f6) (nt := 9) Try.func6 rfl rfl (args := [.agg [slStroke false ik.Strokes]]) rfl (allcons (.inl ⟨rfl, by simp [tagged, taggedL, tagStroke]⟩) allnil) (res := fun r => .tup [.arr 8301, I 0]) ?_
    refine x_seq ?_
    refine x_reg [(0, .new 1)] [1] [1] [.ref 1 0] [some (.box [slStroke false ik.Strokes])] [] (by kernel_rfl) trivial ?_
    refine xe_then ?_
    refine x_seq ?_
    refine x_seq ?_
    refine x_reg [(1, .call [(true, .agg [slStroke false ik.Strokes])] true (Bv true))] [1, 6] [1] [.ref 1 0, Bv false] [some (.box [slStroke false ik.Strokes])] [Con Try.prog 20 [.agg [slStroke false ik.Strokes]] true (Bv true) ∧ ((.agg [slStroke false ik.Strokes] : AV) = .agg [slStroke false ik.Strokes]) ∧ True] (by kernel_rfl) ⟨⟨(con_bool ok (ValidInk_ok ik)), rfl, trivial⟩, trivial⟩ ?_
    refine xe_then ?_
    refine x_false rfl ?_
    refine x_skip ?_
    refine xe_then ?_
    refine x_seq ?_
    obtain ⟨order_1, hx1_0, hc1⟩ := orderOf_ok ik ok
    refine x_reg [(1, .lend [] [(8301, .arr 1 order_1.length (fI order_1))] [(true, .agg [slStroke false ik.Strokes])] false (.arr 8301))] [2, 3] [8301] [.arr 8301, I 0] [some (.arr 1 order_1.length (fI order_1))] [CallOK Try.prog 21 [.agg [slStroke false ik.Strokes]] (lookO []) false (.arr 8301) (lookO [(8301, .arr 1 order_1.length (fI order_1))]) ∧ ((.agg [slStroke false ik.Strokes] : AV) = .agg [slStroke false ik.Strokes]) ∧ True] (by kernel_rfl) ⟨⟨hc1, rfl, trivial⟩, trivial⟩ ?_
    refine xe_then ?_
    refine x_ret ?_
    refine xe_end order_1 (show (order_1 = ordL ik.Strokes) ∧ (True) from ⟨(by first | assumption | exact hx1_0), trivial⟩) (⟨.inl rfl, trivial⟩) (.tup [.arr 8301, I 0]) (by kernel_rfl) (.inl rfl) (fun h => by cases h) (fun h => by cases h)
  obtain ⟨order, ⟨hh0, _⟩, hc⟩ := hh
  exact ⟨order, hh0, hc⟩


-- impl.isStroke
theorem isStroke_ok (ik : Ink) (stroke : Int) : Con Try.prog 22 [.agg [slStroke false ik.Strokes], I stroke] true (Bv (inB stroke 0 ((ik.Strokes.length : Int) - 1))) := by
  refine fn_ok (fn := Try.f22) (nt := 11) Try.func22 rfl rfl rfl rfl (by simp [taggedL, tagged, tagStroke]) fun B hB => ?_
  refine aw_lens (x := .agg [slStroke false ik.Strokes]) 0 rfl (fun len_ik => ?_)
  simp [LenOK, LenL, cPoint, cStroke, fPoint, fStroke, slPoint, slStroke] at len_ik
  refine aw_seq ?_
  refine aw_reg [(0, .new 2)] [1, 2] [2] [I stroke, .ref 2 0] [some (.box [slStroke false ik.Strokes])] [] (by kernel_rfl) hB trivial ?_
  refine ae_then ?_
  refine aw_seq ?_
  refine aw_reg [(5, .call [(true, I stroke), (true, I 0), (true, I ((ik.Strokes.length : Int) - 1))] true (Bv (inB stroke 0 ((ik.Strokes.length : Int) - 1))))] [4] [] [Bv (inB stroke 0 ((ik.Strokes.length : Int) - 1))] [] [inR .i64 ((ik.Strokes.length : Int) - 1), Con Try.prog 30 [I stroke, I 0, I ((ik.Strokes.length : Int) - 1)] true (Bv (inB stroke 0 ((ik.Strokes.length : Int) - 1))) ∧ ((I stroke : AV) = I stroke) ∧ ((I 0 : AV) = I 0) ∧ ((I ((ik.Strokes.length : Int) - 1) : AV) = I ((ik.Strokes.length : Int) - 1)) ∧ True] (by kernel_rfl) hB ⟨(inR_i64 (by omega) (by omega)), ⟨(within_ok stroke 0 ((ik.Strokes.length : Int) - 1)), rfl, rfl, rfl, trivial⟩, trivial⟩ ?_
  refine ae_then ?_
  refine aw_ret ?_
  refine ae_ret hB (Bv (inB stroke 0 ((ik.Strokes.length : Int) - 1))) (by kernel_rfl) (.inl rfl) rfl (fun _ => trivial)


-- impl.HomeOf
theorem HomeOf_ok (ik : Ink) (stroke : Int) (ok : okInk' ik = true) (hs : 0 ≤ stroke ∧ stroke < (ik.Strokes.length : Int)) : Con Try.prog 7 [.agg [slStroke false ik.Strokes], I stroke] true (.tup [I (homeI ik.Strokes stroke.toNat), I 0]) := by
  refine fn_ok (fn := Try.f7) (nt := 16) Try.func7 rfl rfl rfl rfl (by simp [taggedL, tagged, tagStroke]) fun B hB => ?_
  refine aw_lens (x := .agg [slStroke false ik.Strokes]) 0 rfl (fun len_ik => ?_)
  simp [LenOK, LenL, cPoint, cStroke, fPoint, fStroke, slPoint, slStroke] at len_ik
  refine aw_seq ?_
  refine aw_reg [(0, .new 2)] [1, 2] [2] [I stroke, .ref 2 0] [some (.box [slStroke false ik.Strokes])] [] (by kernel_rfl) hB trivial ?_
  refine ae_then ?_
  refine aw_seq ?_
  refine aw_seq ?_
  refine aw_reg [(1, .call [(true, .agg [slStroke false ik.Strokes])] true (Bv true))] [1, 2, 8] [2] [I stroke, .ref 2 0, Bv false] [some (.box [slStroke false ik.Strokes])] [Con Try.prog 20 [.agg [slStroke false ik.Strokes]] true (Bv true) ∧ ((.agg [slStroke false ik.Strokes] : AV) = .agg [slStroke false ik.Strokes]) ∧ True] (by kernel_rfl) hB ⟨⟨(con_bool ok (ValidInk_ok ik)), rfl, trivial⟩, trivial⟩ ?_
  refine ae_then ?_
  refine aw_false rfl ?_
  refine aw_skip ?_
  refine ae_then ?_
  refine aw_seq ?_
  refine aw_seq ?_
  refine aw_reg [(2, .call [(true, .agg [slStroke false ik.Strokes]), (true, I stroke)] true (Bv true))] [1, 2, 12] [2] [I stroke, .ref 2 0, Bv false] [some (.box [slStroke false ik.Strokes])] [Con Try.prog 22 [.agg [slStroke false ik.Strokes], I stroke] true (Bv true) ∧ ((.agg [slStroke false ik.Strokes] : AV) = .agg [slStroke false ik.Strokes]) ∧ ((I stroke : AV) = I stroke) ∧ True] (by kernel_rfl) hB ⟨⟨(con_bool (inB_iff.2 (by omega)) (isStroke_ok ik stroke)), rfl, rfl, trivial⟩, trivial⟩ ?_
  refine ae_then ?_
  refine aw_false rfl ?_
  refine aw_skip ?_
  refine ae_then ?_
  refine aw_seq ?_
  refine aw_reg [(2, .call [(true, .agg [slStroke false ik.Strokes]), (true, I stroke)] true (I (homeI ik.Strokes stroke.toNat)))] [4, 5] [] [I (homeI ik.Strokes stroke.toNat), I 0] [] [Con Try.prog 23 [.agg [slStroke false ik.Strokes], I stroke] true (I (homeI ik.Strokes stroke.toNat)) ∧ ((.agg [slStroke false ik.Strokes] : AV) = .agg [slStroke false ik.Strokes]) ∧ ((I stroke : AV) = I stroke) ∧ True] (by kernel_rfl) hB ⟨⟨(homeOf_ok ik stroke ok (by omega)), rfl, rfl, trivial⟩, trivial⟩ ?_
  refine ae_then ?_
  refine aw_ret ?_
  refine ae_ret hB (.tup [I (homeI ik.Strokes stroke.toNat), I 0]) (by kernel_rfl) (.inl rfl) rfl (fun _ => (by simp [tagged, taggedL]))


-- laws.a2Has
theorem a2Has_ok (list : List Int) (n : Int) (hl : list.length ≤ 4611686018427387904) : Con Try.prog 8 [slI false list, I n] true (Bv (decide (n ∈ list))) := by
  refine fn_ok (fn := Try.f8) (nt := 18) Try.func8 rfl rfl rfl rfl (by simp [taggedL, tagged, tagI]) fun B hB => ?_
  refine aw_lens (x := slI false list) 0 rfl (fun len_list => ?_)
  simp [LenOK, LenL, cI, fI, slI] at len_list
  refine aw_seq ?_
  refine aw_reg [] [0, 1] [] [slI false list, I n] [] [] (by kernel_rfl) hB trivial ?_
  refine ae_then ?_
  refine aw_seq ?_
  refine aw_seq ?_
  refine aw_reg [] [0, 1, 5] [] [slI false list, I n, I 0] [] [] (by kernel_rfl) hB trivial ?_
  refine ae_then ?_
  refine aw_block ?_
  refine aw_loop (fun gn gσ => ∃ (i : Int), gn = ((list.length : Int) - i).toNat ∧ (0 ≤ i ∧ i ≤ (list.length : Int)) ∧ (∀ j : Nat, (j : Int) < i → at_ list j ≠ n) ∧ gσ = mkS [(0, slI false list), (1, I n), (5, I i)] []) (((list.length : Int) - 0).toNat) ⟨0, rfl, (by omega), (by intro j hj; omega), rfl⟩ (fun gn gσ hI => ?_)
  obtain ⟨i, rfl, hi0, hn0, rfl⟩ := hI
  refine aw_seq ?_
  refine aw_seq ?_
  by_cases h1 : i < (list.length : Int)
  ·have hi : i.toNat < list.length := by omega
   refine aw_reg [(3, .dec true)] [0, 1, 5, 9] [] [slI false list, I n, I i, Bv true] [] [i < (list.length : Int)] (by kernel_rfl) hB ⟨h1, trivial⟩ ?_
   refine ae_then ?_
   refine aw_true rfl ?_
   refine aw_skip ?_
   refine ae_then ?_
   refine aw_seq ?_
   refine aw_block ?_
   refine aw_seq ?_
   by_cases h2 : (at_ list i.toNat) = n
   ·have hyes : n ∈ list := h2 ▸ at_mem hi
    refine aw_reg [(5, .dec true)] [0, 1, 5, 17] [] [slI false list, I n, I i, Bv true] [] [(0 : Int) ≤ i ∧ i < (list.length : Int), (at_ list i.toNat) = n] (by kernel_rfl) hB ⟨⟨(by omega), (by omega)⟩, h2, trivial⟩ ?_
    refine ae_then ?_
    refine aw_true rfl ?_
    refine aw_seq ?_
    refine aw_reg [] [4] [] [Bv true] [] [] (by kernel_rfl) hB trivial ?_
    refine ae_then ?_
    refine aw_ret ?_
    refine ae_ret_block (ae_ret_then (ae_ret_then (ae_ret_block (ae_ret_then ?_))))
    refine ae_ret hB (Bv true) (by kernel_rfl) (.inl (by refine congrArg Bv ?_; simp [*])) rfl (fun _ => trivial)
   ·refine aw_reg [(5, .dec false)] [0, 1, 5, 17] [] [slI false list, I n, I i, Bv false] [] [(0 : Int) ≤ i ∧ i < (list.length : Int), ¬ ((at_ list i.toNat) = n)] (by kernel_rfl) hB ⟨⟨(by omega), (by omega)⟩, h2, trivial⟩ ?_
    refine ae_then ?_
    refine aw_false rfl ?_
    refine aw_skip ?_
    refine ae_block 1 ?_
    refine ae_then ?_
    refine aw_reg [] [0, 1, 5] [] [slI false list, I n, I (i + 1)] [] [inR .i64 (i + 1)] (by kernel_rfl) hB ⟨(inR_i64 (by omega) (by omega)), trivial⟩ ?_
    exact ae_again _ (by omega) ⟨(i + 1), rfl, (by omega), (by intro j hj; by_cases e : (j : Int) = i; (have e2 : j = i.toNat := (by omega); rw [e2]; assumption); exact hn0 j (by omega)), rfl⟩
  ·have hno : ¬ n ∈ list := fun hm => by obtain ⟨j, hj, e⟩ := List.getElem_of_mem hm; exact hn0 j (by omega) (by rw [at_eq hj]; exact e)
   refine aw_reg [(3, .dec false)] [0, 1, 5, 9] [] [slI false list, I n, I i, Bv false] [] [¬ (i < (list.length : Int))] (by kernel_rfl) hB ⟨h1, trivial⟩ ?_
   refine ae_then ?_
   refine aw_false rfl ?_
   refine aw_exit ?_
   refine ae_exit_then ?_
   refine ae_exit_then ?_
   refine ae_exit_same ?_
   refine ae_then ?_
   refine aw_seq ?_
   refine aw_reg [] [4] [] [Bv false] [] [] (by kernel_rfl) hB trivial ?_
   refine ae_then ?_
   refine aw_ret ?_
   refine ae_ret hB (Bv false) (by kernel_rfl) (.inl (by refine congrArg Bv ?_; simp [*])) rfl (fun _ => trivial)


-- impl.IsDot
theorem IsDot_ok (s : Stroke) : Con Try.prog 9 [.agg [slPoint false s.Points]] true (Bv (okStroke' s && dotB s)) := by
  refine fn_ok (fn := Try.f9) (nt := 9) Try.func9 rfl rfl rfl rfl (by simp [taggedL, tagged, tagPoint]) fun B hB => ?_
  refine aw_lens (x := .agg [slPoint false s.Points]) 0 rfl (fun len_s => ?_)
  simp [LenOK, LenL, cPoint, fPoint, slPoint] at len_s
  refine aw_seq ?_
  refine aw_reg [(0, .new 1)] [1] [1] [.ref 1 0] [some (.box [slPoint false s.Points])] [] (by kernel_rfl) hB trivial ?_
  refine ae_then ?_
  refine aw_seq ?_
  rcases Bool.eq_false_or_eq_true (okStroke' s) with h1 | h1
  ·refine aw_reg [(1, .call [(true, .agg [slPoint false s.Points])] true (Bv true)), (4, .call [(true, .agg [slPoint false s.Points])] true (Bv (dotB s)))] [2] [] [Bv (dotB s)] [] [Con Try.prog 24 [.agg [slPoint false s.Points]] true (Bv true) ∧ ((.agg [slPoint false s.Points] : AV) = .agg [slPoint false s.Points]) ∧ True, Con Try.prog 25 [.agg [slPoint false s.Points]] true (Bv (dotB s)) ∧ ((.agg [slPoint false s.Points] : AV) = .agg [slPoint false s.Points]) ∧ True] (by kernel_rfl) hB ⟨⟨(con_bool h1 (ValidStroke_ok s)), rfl, trivial⟩, ⟨(isDot_ok s (by assumption)), rfl, trivial⟩, trivial⟩ ?_
   refine ae_then ?_
   refine aw_ret ?_
   refine ae_ret hB (Bv (dotB s)) (by kernel_rfl) (.inl (by simp [*])) rfl (fun _ => trivial)
  ·refine aw_reg [(1, .call [(true, .agg [slPoint false s.Points])] true (Bv false))] [2] [] [Bv false] [] [Con Try.prog 24 [.agg [slPoint false s.Points]] true (Bv false) ∧ ((.agg [slPoint false s.Points] : AV) = .agg [slPoint false s.Points]) ∧ True] (by kernel_rfl) hB ⟨⟨(con_bool h1 (ValidStroke_ok s)), rfl, trivial⟩, trivial⟩ ?_
   refine ae_then ?_
   refine aw_ret ?_
   refine ae_ret hB (Bv false) (by kernel_rfl) (.inl (by simp [*])) rfl (fun _ => trivial)


-- impl.isGroup
theorem isGroup_ok (ik : Ink) (gr : Group) : Con Try.prog 26 [.agg [slStroke false ik.Strokes], agGroup gr] true (Bv (decide (0 ≤ gr.From) && (decide (gr.From < gr.To) && decide (gr.To ≤ (ik.Strokes.length : Int))))) := by
  refine fn_ok (fn := Try.f26) (nt := 23) Try.func26 rfl rfl rfl rfl (by simp [taggedL, tagged, tagStroke]) fun B hB => ?_
  refine aw_lens (x := .agg [slStroke false ik.Strokes]) 0 rfl (fun len_ik => ?_)
  simp [LenOK, LenL, cPoint, cStroke, fPoint, fStroke, slPoint, slStroke] at len_ik
  refine aw_seq ?_
  refine aw_reg [(0, .new 2), (1, .new 3)] [2, 3] [2, 3] [.ref 2 0, .ref 3 0] [some (.box [slStroke false ik.Strokes]), some (bxGroup gr)] [] (by kernel_rfl) hB trivial ?_
  refine ae_then ?_
  refine aw_seq ?_
  by_cases h1 : 0 ≤ gr.From
  ·by_cases h2 : gr.From < gr.To
   ·refine aw_reg [(2, .dec true), (8, .dec true)] [4] [] [Bv (decide (gr.To ≤ (ik.Strokes.length : Int)))] [] [0 ≤ gr.From, gr.From < gr.To] (by kernel_rfl) hB ⟨h1, h2, trivial⟩ ?_
    refine ae_then ?_
    refine aw_ret ?_
    refine ae_ret hB (Bv (decide (gr.To ≤ (ik.Strokes.length : Int)))) (by kernel_rfl) (.inl (by refine congrArg Bv ?_; first | (simp [*]; done) | (simp; omega))) rfl (fun _ => trivial)
   ·refine aw_reg [(2, .dec true), (8, .dec false)] [4] [] [Bv false] [] [0 ≤ gr.From, ¬ (gr.From < gr.To)] (by kernel_rfl) hB ⟨h1, h2, trivial⟩ ?_
    refine ae_then ?_
    refine aw_ret ?_
    refine ae_ret hB (Bv false) (by kernel_rfl) (.inl (by refine congrArg Bv ?_; first | (simp [*]; done) | (simp; omega))) rfl (fun _ => trivial)
  ·refine aw_reg [(2, .dec false)] [4] [] [Bv false] [] [¬ (0 ≤ gr.From)] (by kernel_rfl) hB ⟨h1, trivial⟩ ?_
   refine ae_then ?_
   refine aw_ret ?_
   refine ae_ret hB (Bv false) (by kernel_rfl) (.inl (by refine congrArg Bv ?_; first | (simp [*]; done) | (simp; omega))) rfl (fun _ => trivial)


-- slices.Sort[[]int64,int64]
theorem sort_ok (list : List Int) (hl : list.length < 4611686018427387904) : ∃ (list' : List Int), (list' = sortL list) ∧ CallOK Try.prog 43 [.arr 7201] (lookO [(7201, .arr 1 list.length (fI list))]) false (.tup []) (lookO [(7201, .arr 1 list'.length (fI list'))]) :=
  ⟨sortL list, rfl, sort_callOK (fun blk off cap zs w h1 h2 h3 => AnyG.slices_Sort_int Try.laysSort blk off cap zs w h1 h2 h3) (fun p cap w => AnyG.slices_Sort_int_none Try.laysSort p cap w) 7201 list hl⟩


-- impl.copyInk$1
theorem copy1_ok (p : Point) : Con Try.prog 57 [agPoint p] true (agPoint p) := by
  refine fn_ok (fn := Try.f57) (nt := 4) Try.func57 rfl rfl rfl rfl (by simp [taggedL, tagged]) fun B hB => ?_
  refine aw_seq ?_
  refine aw_reg [(0, .new 1), (1, .new 2)] [1, 2] [1, 2] [.ref 1 0, .ref 2 0] [some (bxPoint p), some (.box [I 0, I 0, I 0])] [] (by kernel_rfl) hB trivial ?_
  refine ae_then ?_
  refine aw_seq ?_
  refine aw_reg [] [2] [2] [.ref 2 0] [some (bxPoint p)] [] (by kernel_rfl) hB trivial ?_
  refine ae_then ?_
  refine aw_ret ?_
  refine ae_ret hB (agPoint p) (by kernel_rfl) (.inl rfl) rfl (fun _ => (by simp [tagged, taggedL]))


def mpS (f : Point → Point) (s : Stroke) : Stroke := ⟨s.Points.map (f)⟩
/-- Ink at another place. -/
def mpI (f : Point → Point) (x : Ink) : Ink := ⟨x.Strokes.map (mpS f)⟩
theorem mpI_len (f : Point → Point) (x : Ink) : (mpI f x).Strokes.length = x.Strokes.length := by simp [mpI]
theorem mpS_len (f : Point → Point) (s : Stroke) : (mpS f s).Points.length = s.Points.length := by simp [mpS]
theorem mpS_at {f : Point → Point} {s : Stroke} {j : Nat} (h : j < s.Points.length) : at_ (mpS f s).Points j = f (at_ s.Points j) := by simp [at_, mpS, h]
theorem mpI_at {f : Point → Point} {x : Ink} {j : Nat} (h : j < x.Strokes.length) : at_ (mpI f x).Strokes j = mpS f (at_ x.Strokes j) := by simp [at_, mpI, h]
/-- The first k points are moved. -/
def mpTo (f : Point → Point) (k : Nat) (s : Stroke) : Stroke := ⟨(s.Points.take k).map (f) ++ s.Points.drop k⟩
/-- The first i strokes are moved. -/
def mpFst (f : Point → Point) (i : Nat) (xs : List Stroke) : List Stroke := (xs.take i).map (mpS f) ++ xs.drop i
theorem mpTo_zero (f : Point → Point) (s : Stroke) : mpTo f 0 s = s := by simp [mpTo]
theorem mpTo_all {f : Point → Point} {k : Nat} {s : Stroke} (h : s.Points.length ≤ k) : mpTo f k s = mpS f s := by simp [mpTo, mpS, List.take_of_length_le h, List.drop_eq_nil_of_le h]
theorem mpTo_len (f : Point → Point) (k : Nat) (s : Stroke) : (mpTo f k s).Points.length = s.Points.length := by simp [mpTo]; omega
theorem mpTo_at {f : Point → Point} {k : Nat} {s : Stroke} (h : k < s.Points.length) : at_ (mpTo f k s).Points k = at_ s.Points k := by
  simp [at_, mpTo, h, Nat.le_of_lt h, List.getElem?_append]
theorem mpTo_succ {f : Point → Point} {k : Nat} {s : Stroke} (h : k < s.Points.length) : mpTo f (k + 1) s = ⟨(mpTo f k s).Points.set k (f (at_ s.Points k))⟩ := by
  unfold mpTo
  simp only [Stroke.mk.injEq]
  rw [List.take_succ_eq_append_getElem h, List.set_append_right _ _ (by simp [Nat.le_of_lt h]), List.drop_eq_getElem_cons h, at_eq h]
  simp only [List.map_append, List.map_cons, List.map_nil, List.length_map, List.length_take, Nat.min_eq_left (Nat.le_of_lt h), Nat.sub_self, List.set_cons_zero, List.append_assoc, List.cons_append, List.nil_append]
theorem mpFst_zero (f : Point → Point) (xs : List Stroke) : mpFst f 0 xs = xs := by simp [mpFst]
theorem mpFst_len (f : Point → Point) (i : Nat) (xs : List Stroke) : (mpFst f i xs).length = xs.length := by simp [mpFst]; omega
theorem mpFst_all {f : Point → Point} {i : Nat} {xs : List Stroke} (h : xs.length ≤ i) : mpFst f i xs = xs.map (mpS f) := by simp [mpFst, List.take_of_length_le h, List.drop_eq_nil_of_le h]
theorem mpFst_at {f : Point → Point} {i : Nat} {xs : List Stroke} (h : i < xs.length) : at_ (mpFst f i xs) i = at_ xs i := by
  simp [at_, mpFst, h, Nat.le_of_lt h, List.getElem?_append]
theorem mpFst_succ {f : Point → Point} {i : Nat} {xs : List Stroke} (h : i < xs.length) : mpFst f (i + 1) xs = (mpFst f i xs).set i (mpS f (at_ xs i)) := by
  unfold mpFst
  rw [List.take_succ_eq_append_getElem h, List.set_append_right _ _ (by simp [Nat.le_of_lt h]), List.drop_eq_getElem_cons h, at_eq h]
  simp only [List.map_append, List.map_cons, List.map_nil, List.length_map, List.length_take, Nat.min_eq_left (Nat.le_of_lt h), Nat.sub_self, List.set_cons_zero, List.append_assoc, List.cons_append, List.nil_append]
/-- The stroke at i, of which the first k points are moved. -/
def mpIn (f : Point → Point) (i k : Nat) (xs : List Stroke) : List Stroke := (mpFst f i xs).set i (mpTo f k (at_ xs i))
theorem mpIn_zero {f : Point → Point} {i : Nat} {xs : List Stroke} (h : i < xs.length) : mpIn f i 0 xs = mpFst f i xs := by
  have hl : i < (mpFst f i xs).length := by rw [mpFst_len]; exact h
  rw [mpIn, mpTo_zero]
  have := mpFst_at (f := f) h
  conv => lhs; rw [← this]
  simp [at_, hl]
theorem mpIn_len (f : Point → Point) (i k : Nat) (xs : List Stroke) : (mpIn f i k xs).length = xs.length := by simp [mpIn, mpFst_len]
theorem mpIn_at {f : Point → Point} {i k : Nat} {xs : List Stroke} (h : i < xs.length) : at_ (mpIn f i k xs) i = mpTo f k (at_ xs i) := by
  have hl : i < (mpFst f i xs).length := by rw [mpFst_len]; exact h
  simp [mpIn, at_, hl]
theorem mpIn_succ {f : Point → Point} {i k : Nat} {xs : List Stroke} (h : i < xs.length) (hk : k < (at_ xs i).Points.length) : mpIn f i (k + 1) xs = (mpIn f i k xs).set i ⟨(at_ (mpIn f i k xs) i).Points.set k (f (at_ (at_ xs i).Points k))⟩ := by
  rw [mpIn_at h, mpIn, mpTo_succ hk, mpIn, List.set_set]
theorem mpIn_all {f : Point → Point} {i k : Nat} {xs : List Stroke} (h : i < xs.length) (hk : (at_ xs i).Points.length ≤ k) : mpIn f i k xs = mpFst f (i + 1) xs := by
  rw [mpIn, mpTo_all hk, mpFst_succ h]

theorem at_setS' {α : Type} [Inhabited α] {xs : List α} {i : Nat} {y : α} (h : i < xs.length) : at_ (xs.set i y) i = y := by simp [at_, h]
theorem mapTake_succ {α β : Type} [Inhabited α] {xs : List α} {f : α → β} {i : Int} {y : β} (h0 : 0 ≤ i) (h : i.toNat < xs.length) (hy : y = f (at_ xs i.toNat)) : (xs.take (i + 1).toNat).map f = (xs.take i.toNat).map f ++ [y] := by
  have e : (i + 1).toNat = i.toNat + 1 := by omega
  rw [e, List.take_succ_eq_append_getElem h, hy, at_eq h]
  simp only [List.map_append, List.map_cons, List.map_nil]
theorem map_all {α β : Type} {xs : List α} {f : α → β} {i : Int} (h : (xs.length : Int) ≤ i) : (xs.take i.toNat).map f = xs.map f := by
  rw [List.take_of_length_le (by omega)]
section
variable {f : Point → Point} {i k : Int} {xs ys : List Stroke}
theorem mpIn_pt (e : ys = mpIn f i.toNat k.toNat xs) (hi : i.toNat < xs.length) (hk : k.toNat < (at_ xs i.toNat).Points.length) : at_ (at_ ys i.toNat).Points k.toNat = at_ (at_ xs i.toNat).Points k.toNat := by rw [e, mpIn_at hi, mpTo_at hk]
theorem mpIn_next (e : ys = mpIn f i.toNat k.toNat xs) (hk0 : 0 ≤ k) (hi : i.toNat < xs.length) (hk : k.toNat < (at_ xs i.toNat).Points.length) {p : Point} (hp : p = f (at_ (at_ xs i.toNat).Points k.toNat)) :
    ys.set i.toNat ⟨(at_ ys i.toNat).Points.set k.toNat p⟩ = mpIn f i.toNat (k + 1).toNat xs := by
  have ek : (k + 1).toNat = k.toNat + 1 := by omega
  rw [hp, ek, mpIn_succ hi hk, ← e]
theorem mpIn_exit (e : ys = mpIn f i.toNat k.toNat xs) (hi0 : 0 ≤ i) (hi : i.toNat < xs.length) (hk : (at_ xs i.toNat).Points.length ≤ k.toNat) : ys = mpFst f (i + 1).toNat xs := by
  have ei : (i + 1).toNat = i.toNat + 1 := by omega
  rw [e, ei, mpIn_all hi hk]
theorem mpIn_row (e : ys = mpIn f i.toNat k.toNat xs) (hi : i.toNat < xs.length) : (at_ ys i.toNat).Points.length = (at_ xs i.toNat).Points.length := by rw [e, mpIn_at hi, mpTo_len]
theorem mpI_id {x : Ink} (h : ∀ p, f p = p) : mpI f x = x := by
  have hs : ∀ s : Stroke, mpS f s = s := fun s => by
    have e : f = id := funext h
    unfold mpS; rw [e, List.map_id]
  have e2 : mpS f = id := funext hs
  unfold mpI; rw [e2, List.map_id]
end

theorem mp_id (x : Ink) : mpI (fun p => p) x = x := by
  have e : (mpS fun p => p) = id := funext fun s => by cases s; simp [mpS]
  rw [mpI, e]; simp

-- impl.copyInk
-- impl.mapInk at a closure
theorem mapInk_copy (ik : Ink) (hx : ∀ s ∈ ik.Strokes, okStroke' s = true) (hl : ik.Strokes.length ≤ 16)  : ∃ (v : Ink), (v = mpI (fun p => p) ik) ∧ Con Try.prog 56 [.agg [slStroke false ik.Strokes], .fn 57 []] true (.agg [slStroke true v.Strokes]) := by
  have hh : ∃ r : Ink, ((r = mpI (fun p => p) ik) ∧ (True)) ∧ CallOK Try.prog 56 [.agg [slStroke false ik.Strokes], .fn 57 []] (lookO []) true (.agg [slStroke true r.Strokes]) (lookO []) := by
    refine fn_okX (Φ := fun r : Ink => (r = mpI (fun p => p) ik) ∧ (True)) [] (fun r => []) (fn := Try.f56) (nt := 42) Try.func56 rfl rfl (args := [.agg [slStroke false ik.Strokes], .fn 57 []]) rfl (allcons (.inl ⟨rfl, by simp [tagged, taggedL, tagStroke]⟩) (allcons (.inl ⟨rfl, trivial⟩) allnil)) (res := fun r => .agg [slStroke true r.Strokes]) ?_
    refine x_seq ?_
    refine x_reg [(0, .new 2), (1, .new 4)] [1, 2, 4] [2, 4] [.fn 57 [], .ref 2 0, .ref 4 0] [some (.box [slStroke false ik.Strokes]), some (.box [nilA])] [] (by kernel_rfl) trivial ?_
    refine xe_then ?_
    refine x_seq ?_
    refine x_reg [(0, .new 5)] [1, 2, 4, 5] [2, 4, 5] [.fn 57 [], .ref 2 0, .ref 4 0, .ref 5 0] [some (.box [slStroke false ik.Strokes]), some (.box [nilA]), some (.box [nilA])] [] (by kernel_rfl) trivial ?_
    refine xe_then ?_
    refine x_seq ?_
    refine x_seq ?_
    refine x_reg [] [1, 4, 5, 12, 13, 14] [4, 5] [.fn 57 [], .ref 4 0, .ref 5 0, slStroke false ik.Strokes, I (ik.Strokes.length : Int), I 0] [some (.box [nilA]), some (.box [nilA])] [] (by kernel_rfl) trivial ?_
    refine xe_then ?_
    refine x_block ?_
    refine x_nilC 5 0 750 1 (fun _ => []) rfl (by kernel_rfl) ?_
    refine x_fam 8062 3 (fun _ => 0) (fun _ _ => []) (by kernel_rfl) ?_
    refine x_weak [] (T := [(1, .fn 57 []), (4, .ref 4 0), (5, .ref 5 0), (12, slStroke false ik.Strokes), (13, I (ik.Strokes.length : Int)), (14, I 0)]) (O := [(4, .box [nilA]), (5, .box [.arr 750]), (750, .oar [8062] 1 (([] : List Stroke).length) (oStroke 8062 ([] : List Stroke))), (8062, .fam ([] : List Stroke).length 3 (mStroke ([] : List Stroke)) (gStroke ([] : List Stroke)))]) rfl (⟨.inl rfl, .inl rfl, .inl rfl, .inl rfl, .inl rfl, .inl rfl, trivial⟩) (⟨.inl rfl, .inl rfl, .inr ⟨rfl, rfl, fun i hi => absurd hi (Nat.not_lt_zero _)⟩, .inr ⟨rfl, rfl, fun p hp => absurd hp (Nat.not_lt_zero _)⟩, trivial⟩) ?_
    refine x_loop (X := Int × (List Stroke)) (fun x => mkS [(1, .fn 57 []), (4, .ref 4 0), (5, .ref 5 0), (12, slStroke false ik.Strokes), (13, I (ik.Strokes.length : Int)), (14, I x.1)] [(4, .box [nilA]), (5, .box [.arr 750]), (750, .oar [8062] 1 x.2.length (oStroke 8062 x.2)), (8062, .fam x.2.length 3 (mStroke x.2) (gStroke x.2))]) (fun x => (0 ≤ x.1 ∧ x.1 ≤ (ik.Strokes.length : Int)) ∧ ((x.2.length : Int) = x.1) ∧ (x.2 = (ik.Strokes.take x.1.toNat).map (mpS (fun p => p))) ∧ True) (fun x => ((ik.Strokes.length : Int) - x.1).toNat) (0, ([] : List Stroke)) rfl (show (0 ≤ (0 : Int) ∧ (0 : Int) ≤ (ik.Strokes.length : Int)) ∧ ((([] : List Stroke).length : Int) = (0 : Int)) ∧ (([] : List Stroke) = (ik.Strokes.take (0 : Int).toNat).map (mpS (fun p => p))) ∧ True from ⟨(by omega), (by rfl), (by rfl), trivial⟩) (fun x hI => ?_)
    obtain ⟨t14, ss⟩ := x
    obtain ⟨hi0, hl0, hs0, _⟩ : (0 ≤ t14 ∧ t14 ≤ (ik.Strokes.length : Int)) ∧ ((ss.length : Int) = t14) ∧ (ss = (ik.Strokes.take t14.toNat).map (mpS (fun p => p))) ∧ True := hI
    show XW _ _ _ _ (mkS [(1, .fn 57 []), (4, .ref 4 0), (5, .ref 5 0), (12, slStroke false ik.Strokes), (13, I (ik.Strokes.length : Int)), (14, I t14)] [(4, .box [nilA]), (5, .box [.arr 750]), (750, .oar [8062] 1 ss.length (oStroke 8062 ss)), (8062, .fam ss.length 3 (mStroke ss) (gStroke ss))]) _ _
    refine x_seq ?_
    by_cases h1 : t14 < (ik.Strokes.length : Int)
    ·have hi : t14.toNat < ik.Strokes.length := by omega
     have hos := hx _ (at_mem hi)
     have hol := okS_len hos
     refine x_reg [(0, .dec true)] [1, 4, 5, 12, 13, 14, 15] [4, 5, 750, 8062] [.fn 57 [], .ref 4 0, .ref 5 0, slStroke false ik.Strokes, I (ik.Strokes.length : Int), I t14, Bv true] [some (.box [nilA]), some (.box [.arr 750]), some (.oar [8062] 1 ss.length (oStroke 8062 ss)), some (.fam ss.length 3 (mStroke ss) (gStroke ss))] [t14 < (ik.Strokes.length : Int)] (by kernel_rfl) ⟨h1, trivial⟩ ?_
     refine xe_then ?_
     refine x_seq ?_
     refine x_true rfl ?_
     refine x_skip ?_
     refine xe_then ?_
     refine x_seq ?_
     refine x_block ?_
     refine x_seq ?_
     refine x_reg [(2, .new 7)] [1, 4, 5, 7, 12, 13, 14] [4, 5, 7, 750, 8062] [.fn 57 [], .ref 4 0, .ref 5 0, .ref 7 0, slStroke false ik.Strokes, I (ik.Strokes.length : Int), I t14] [some (.box [nilA]), some (.box [.arr 750]), some (.box [slPoint false ((at_ ik.Strokes t14.toNat).Points)]), some (.oar [8062] 1 ss.length (oStroke 8062 ss)), some (.fam ss.length 3 (mStroke ss) (gStroke ss))] [(0 : Int) ≤ t14 ∧ t14 < (ik.Strokes.length : Int)] (by kernel_rfl) ⟨⟨(by omega), (by omega)⟩, trivial⟩ ?_
     refine xe_then ?_
     refine x_seq ?_
     refine x_reg [(0, .new 8)] [1, 4, 5, 7, 8, 12, 13, 14] [4, 5, 7, 8, 750, 8062] [.fn 57 [], .ref 4 0, .ref 5 0, .ref 7 0, .ref 8 0, slStroke false ik.Strokes, I (ik.Strokes.length : Int), I t14] [some (.box [nilA]), some (.box [.arr 750]), some (.box [slPoint false ((at_ ik.Strokes t14.toNat).Points)]), some (.box [nilA]), some (.oar [8062] 1 ss.length (oStroke 8062 ss)), some (.fam ss.length 3 (mStroke ss) (gStroke ss))] [] (by kernel_rfl) trivial ?_
     refine xe_then ?_
     refine x_seq ?_
     refine x_seq ?_
     refine x_reg [] [1, 4, 5, 8, 12, 13, 14, 19, 20, 21] [4, 5, 8, 750, 8062] [.fn 57 [], .ref 4 0, .ref 5 0, .ref 8 0, slStroke false ik.Strokes, I (ik.Strokes.length : Int), I t14, slPoint false ((at_ ik.Strokes t14.toNat).Points), I ((((at_ ik.Strokes t14.toNat).Points).length) : Int), I 0] [some (.box [nilA]), some (.box [.arr 750]), some (.box [nilA]), some (.oar [8062] 1 ss.length (oStroke 8062 ss)), some (.fam ss.length 3 (mStroke ss) (gStroke ss))] [] (by kernel_rfl) trivial ?_
     refine xe_then ?_
     refine x_block ?_
     refine x_nilC 8 0 780 3 (fun _ => []) rfl (by kernel_rfl) ?_
     refine x_weak [] (T := [(1, .fn 57 []), (4, .ref 4 0), (5, .ref 5 0), (8, .ref 8 0), (12, slStroke false ik.Strokes), (13, I (ik.Strokes.length : Int)), (14, I t14), (19, slPoint false ((at_ ik.Strokes t14.toNat).Points)), (20, I ((((at_ ik.Strokes t14.toNat).Points).length) : Int)), (21, I 0)]) (O := [(4, .box [nilA]), (5, .box [.arr 750]), (8, .box [.arr 780]), (750, .oar [8062] 1 ss.length (oStroke 8062 ss)), (780, .arr 3 (([] : List Point).length) (fPoint ([] : List Point))), (8062, .fam ss.length 3 (mStroke ss) (gStroke ss))]) rfl (⟨.inl rfl, .inl rfl, .inl rfl, .inl rfl, .inl rfl, .inl rfl, .inl rfl, .inl rfl, .inl rfl, .inl rfl, trivial⟩) (⟨.inl rfl, .inl rfl, .inl rfl, .inl rfl, .inr ⟨rfl, (by first | rfl | (simp; done) | (simp; omega) | omega), fun i_ hi_ => absurd hi_ (Nat.not_lt_zero _)⟩, .inl rfl, trivial⟩) ?_
     refine x_loop (X := Int × (List Point)) (fun x => mkS [(1, .fn 57 []), (4, .ref 4 0), (5, .ref 5 0), (8, .ref 8 0), (12, slStroke false ik.Strokes), (13, I (ik.Strokes.length : Int)), (14, I t14), (19, slPoint false ((at_ ik.Strokes t14.toNat).Points)), (20, I ((((at_ ik.Strokes t14.toNat).Points).length) : Int)), (21, I x.1)] [(4, .box [nilA]), (5, .box [.arr 750]), (8, .box [.arr 780]), (750, .oar [8062] 1 ss.length (oStroke 8062 ss)), (780, .arr 3 x.2.length (fPoint x.2)), (8062, .fam ss.length 3 (mStroke ss) (gStroke ss))]) (fun x => (0 ≤ x.1 ∧ x.1 ≤ ((at_ ik.Strokes t14.toNat).Points.length : Int)) ∧ ((x.2.length : Int) = x.1) ∧ (x.2 = ((at_ ik.Strokes t14.toNat).Points.take x.1.toNat).map (fun p => p)) ∧ True) (fun x => (((at_ ik.Strokes t14.toNat).Points.length : Int) - x.1).toNat) (0, ([] : List Point)) rfl (show (0 ≤ (0 : Int) ∧ (0 : Int) ≤ ((at_ ik.Strokes t14.toNat).Points.length : Int)) ∧ ((([] : List Point).length : Int) = (0 : Int)) ∧ (([] : List Point) = ((at_ ik.Strokes t14.toNat).Points.take (0 : Int).toNat).map (fun p => p)) ∧ True from ⟨(by omega), (by rfl), (by rfl), trivial⟩) (fun x hI => ?_)
     obtain ⟨t21, pts⟩ := x
     obtain ⟨hk0, hm0, hp1, _⟩ : (0 ≤ t21 ∧ t21 ≤ ((at_ ik.Strokes t14.toNat).Points.length : Int)) ∧ ((pts.length : Int) = t21) ∧ (pts = ((at_ ik.Strokes t14.toNat).Points.take t21.toNat).map (fun p => p)) ∧ True := hI
     show XW _ _ _ _ (mkS [(1, .fn 57 []), (4, .ref 4 0), (5, .ref 5 0), (8, .ref 8 0), (12, slStroke false ik.Strokes), (13, I (ik.Strokes.length : Int)), (14, I t14), (19, slPoint false ((at_ ik.Strokes t14.toNat).Points)), (20, I ((((at_ ik.Strokes t14.toNat).Points).length) : Int)), (21, I t21)] [(4, .box [nilA]), (5, .box [.arr 750]), (8, .box [.arr 780]), (750, .oar [8062] 1 ss.length (oStroke 8062 ss)), (780, .arr 3 pts.length (fPoint pts)), (8062, .fam ss.length 3 (mStroke ss) (gStroke ss))]) _ _
     refine x_seq ?_
     by_cases h2 : t21 < ((((at_ ik.Strokes t14.toNat).Points).length) : Int)
     ·have hk : t21.toNat < (at_ ik.Strokes t14.toNat).Points.length := by omega
      have hpo := okS_at hos hk
      refine x_reg [(0, .dec true)] [1, 4, 5, 8, 12, 13, 14, 19, 20, 21, 22] [4, 5, 8, 750, 780, 8062] [.fn 57 [], .ref 4 0, .ref 5 0, .ref 8 0, slStroke false ik.Strokes, I (ik.Strokes.length : Int), I t14, slPoint false ((at_ ik.Strokes t14.toNat).Points), I ((((at_ ik.Strokes t14.toNat).Points).length) : Int), I t21, Bv true] [some (.box [nilA]), some (.box [.arr 750]), some (.box [.arr 780]), some (.oar [8062] 1 ss.length (oStroke 8062 ss)), some (.arr 3 pts.length (fPoint pts)), some (.fam ss.length 3 (mStroke ss) (gStroke ss))] [t21 < ((((at_ ik.Strokes t14.toNat).Points).length) : Int)] (by kernel_rfl) ⟨h2, trivial⟩ ?_
      refine xe_then ?_
      refine x_seq ?_
      refine x_true rfl ?_
      refine x_skip ?_
      refine xe_then ?_
      refine x_seq ?_
      refine x_block ?_
      refine x_seq ?_
      refine x_reg [(2, .new 10)] [1, 4, 5, 8, 10, 12, 13, 14, 19, 20, 21] [4, 5, 8, 10, 750, 780, 8062] [.fn 57 [], .ref 4 0, .ref 5 0, .ref 8 0, .ref 10 0, slStroke false ik.Strokes, I (ik.Strokes.length : Int), I t14, slPoint false ((at_ ik.Strokes t14.toNat).Points), I ((((at_ ik.Strokes t14.toNat).Points).length) : Int), I t21] [some (.box [nilA]), some (.box [.arr 750]), some (.box [.arr 780]), some (bxPoint (at_ ((at_ ik.Strokes t14.toNat).Points) t21.toNat)), some (.oar [8062] 1 ss.length (oStroke 8062 ss)), some (.arr 3 pts.length (fPoint pts)), some (.fam ss.length 3 (mStroke ss) (gStroke ss))] [(0 : Int) ≤ t21 ∧ t21 < ((((at_ ik.Strokes t14.toNat).Points).length) : Int)] (by kernel_rfl) ⟨⟨(by omega), (by omega)⟩, trivial⟩ ?_
      refine xe_then ?_
      refine x_reg [(4, .call [(true, agPoint (at_ ((at_ ik.Strokes t14.toNat).Points) t21.toNat))] true (agPoint (at_ ((at_ ik.Strokes t14.toNat).Points) t21.toNat))), (5, .new 30), (6, .new 31)] [1, 4, 5, 8, 12, 13, 14, 19, 20, 21] [4, 5, 8, 31, 750, 8062] [.fn 57 [], .ref 4 0, .ref 5 0, .ref 8 0, slStroke false ik.Strokes, I (ik.Strokes.length : Int), I t14, slPoint false ((at_ ik.Strokes t14.toNat).Points), I ((((at_ ik.Strokes t14.toNat).Points).length) : Int), I t21] [some (.box [nilA]), some (.box [.arr 750]), some (.box [.arr 31]), some (.arr 3 (pts.length + 1) (catF pts.length (fPoint pts) (litF [I ((at_ ((at_ ik.Strokes t14.toNat).Points) t21.toNat).X), I ((at_ ((at_ ik.Strokes t14.toNat).Points) t21.toNat).Y), I ((at_ ((at_ ik.Strokes t14.toNat).Points) t21.toNat).T)] 3))), some (.oar [8062] 1 ss.length (oStroke 8062 ss)), some (.fam ss.length 3 (mStroke ss) (gStroke ss))] [Con Try.prog 57 [agPoint (at_ ((at_ ik.Strokes t14.toNat).Points) t21.toNat)] true (agPoint (at_ ((at_ ik.Strokes t14.toNat).Points) t21.toNat)) ∧ ((agPoint (at_ ((at_ ik.Strokes t14.toNat).Points) t21.toNat) : AV) = agPoint (at_ ((at_ ik.Strokes t14.toNat).Points) t21.toNat)) ∧ True, (pts.length + 1) * 24 ≤ 140737488355328] (by kernel_rfl) ⟨⟨(copy1_ok (at_ ((at_ ik.Strokes t14.toNat).Points) t21.toNat)), rfl, trivial⟩, (by omega), trivial⟩ ?_
      refine xe_block 3 ?_
      refine xe_then ?_
      refine x_reg [] [1, 4, 5, 8, 12, 13, 14, 19, 20, 21] [4, 5, 8, 31, 750, 8062] [.fn 57 [], .ref 4 0, .ref 5 0, .ref 8 0, slStroke false ik.Strokes, I (ik.Strokes.length : Int), I t14, slPoint false ((at_ ik.Strokes t14.toNat).Points), I ((((at_ ik.Strokes t14.toNat).Points).length) : Int), I (t21 + 1)] [some (.box [nilA]), some (.box [.arr 750]), some (.box [.arr 31]), some (.arr 3 (pts.length + 1) (catF pts.length (fPoint pts) (litF [I ((at_ ((at_ ik.Strokes t14.toNat).Points) t21.toNat).X), I ((at_ ((at_ ik.Strokes t14.toNat).Points) t21.toNat).Y), I ((at_ ((at_ ik.Strokes t14.toNat).Points) t21.toNat).T)] 3))), some (.oar [8062] 1 ss.length (oStroke 8062 ss)), some (.fam ss.length 3 (mStroke ss) (gStroke ss))] [inR .i64 (t21 + 1)] (by kernel_rfl) ⟨(inR_i64 (by omega) (by omega)), trivial⟩ ?_
      refine xe_weak [(780, 31)] (T := [(1, .fn 57 []), (4, .ref 4 0), (5, .ref 5 0), (8, .ref 8 0), (12, slStroke false ik.Strokes), (13, I (ik.Strokes.length : Int)), (14, I t14), (19, slPoint false ((at_ ik.Strokes t14.toNat).Points)), (20, I ((((at_ ik.Strokes t14.toNat).Points).length) : Int)), (21, I (t21 + 1))]) (O := [(4, .box [nilA]), (5, .box [.arr 750]), (8, .box [.arr 780]), (750, .oar [8062] 1 ss.length (oStroke 8062 ss)), (780, .arr 3 ((pts ++ [(at_ ((at_ ik.Strokes t14.toNat).Points) t21.toNat)]).length) (fPoint (pts ++ [(at_ ((at_ ik.Strokes t14.toNat).Points) t21.toNat)]))), (8062, .fam ss.length 3 (mStroke ss) (gStroke ss))]) rfl (⟨.inl rfl, .inl rfl, .inl rfl, .inl rfl, .inl rfl, .inl rfl, .inl rfl, .inl rfl, .inl rfl, .inl rfl, trivial⟩) (⟨.inl rfl, .inl rfl, .inl rfl, .inl rfl, .inr ⟨rfl, (by first | rfl | (simp; done) | (simp; omega) | omega), fun i_ hi_ => .inl (cat_snoc (enc := cPoint) (xs := pts) rfl i_ hi_)⟩, .inl rfl, trivial⟩) (xe_again ((t21 + 1), (pts ++ [(at_ ((at_ ik.Strokes t14.toNat).Points) t21.toNat)])) rfl (show (0 ≤ (t21 + 1) ∧ (t21 + 1) ≤ ((at_ ik.Strokes t14.toNat).Points.length : Int)) ∧ (((pts ++ [(at_ ((at_ ik.Strokes t14.toNat).Points) t21.toNat)]).length : Int) = (t21 + 1)) ∧ ((pts ++ [(at_ ((at_ ik.Strokes t14.toNat).Points) t21.toNat)]) = ((at_ ik.Strokes t14.toNat).Points.take (t21 + 1).toNat).map (fun p => p)) ∧ True from ⟨(by omega), (by simp; omega), (by rw [hp1]; exact (mapTake_succ (by omega) hk rfl).symm), trivial⟩) (by show ((((at_ ik.Strokes t14.toNat).Points.length : Int) - (t21 + 1)).toNat : Nat) < (((at_ ik.Strokes t14.toNat).Points.length : Int) - t21).toNat; omega))
     ·refine x_reg [(0, .dec false)] [1, 4, 5, 8, 12, 13, 14, 19, 20, 21, 22] [4, 5, 8, 750, 780, 8062] [.fn 57 [], .ref 4 0, .ref 5 0, .ref 8 0, slStroke false ik.Strokes, I (ik.Strokes.length : Int), I t14, slPoint false ((at_ ik.Strokes t14.toNat).Points), I ((((at_ ik.Strokes t14.toNat).Points).length) : Int), I t21, Bv false] [some (.box [nilA]), some (.box [.arr 750]), some (.box [.arr 780]), some (.oar [8062] 1 ss.length (oStroke 8062 ss)), some (.arr 3 pts.length (fPoint pts)), some (.fam ss.length 3 (mStroke ss) (gStroke ss))] [¬ (t21 < ((((at_ ik.Strokes t14.toNat).Points).length) : Int))] (by kernel_rfl) ⟨h2, trivial⟩ ?_
      refine xe_then ?_
      refine x_seq ?_
      refine x_false rfl ?_
      refine x_exit ?_
      refine xe_exit_then ?_
      refine xe_loop_exit ?_
      refine xe_exit_same ?_
      refine xe_then ?_
      refine x_reg [(3, .new 37), (4, .new 38)] [1, 4, 5, 12, 13, 14] [4, 5, 38, 780, 8062] [.fn 57 [], .ref 4 0, .ref 5 0, slStroke false ik.Strokes, I (ik.Strokes.length : Int), I t14] [some (.box [nilA]), some (.box [.arr 38]), some (.oar [8062, 780] 1 (ss.length + 1) (catF ss.length (oStroke 8062 ss) (litF [.arr 780] 1))), some (.arr 3 pts.length (fPoint pts)), some (.fam ss.length 3 (mStroke ss) (gStroke ss))] [(ss.length + 1) * 24 ≤ 140737488355328] (by kernel_rfl) ⟨(by omega), trivial⟩ ?_
      refine xe_block 1 ?_
      refine xe_then ?_
      refine x_reg [] [1, 4, 5, 12, 13, 14] [4, 5, 38, 780, 8062] [.fn 57 [], .ref 4 0, .ref 5 0, slStroke false ik.Strokes, I (ik.Strokes.length : Int), I (t14 + 1)] [some (.box [nilA]), some (.box [.arr 38]), some (.oar [8062, 780] 1 (ss.length + 1) (catF ss.length (oStroke 8062 ss) (litF [.arr 780] 1))), some (.arr 3 pts.length (fPoint pts)), some (.fam ss.length 3 (mStroke ss) (gStroke ss))] [inR .i64 (t14 + 1)] (by kernel_rfl) ⟨(inR_i64 (by omega) (by omega)), trivial⟩ ?_
      refine xe_join 780 8062 rfl rfl rfl ?_
      refine xe_weak [(750, 38)] (T := [(1, .fn 57 []), (4, .ref 4 0), (5, .ref 5 0), (12, slStroke false ik.Strokes), (13, I (ik.Strokes.length : Int)), (14, I (t14 + 1))]) (O := [(4, .box [nilA]), (5, .box [.arr 750]), (750, .oar [8062] 1 ((ss ++ [(Stroke.mk pts)]).length) (oStroke 8062 (ss ++ [(Stroke.mk pts)]))), (8062, .fam (ss ++ [(Stroke.mk pts)]).length 3 (mStroke (ss ++ [(Stroke.mk pts)])) (gStroke (ss ++ [(Stroke.mk pts)])))]) rfl (⟨.inl rfl, .inl rfl, .inl rfl, .inl rfl, .inl rfl, .inl rfl, trivial⟩) (⟨.inl rfl, .inl rfl, .inr ⟨rfl, rfl, (by simp), fun i hi => .inl (ocatStroke rfl rfl rfl i hi)⟩, .inr (fcatStroke (Stroke.mk pts) (by first | rfl | (simp; done)) (fun i_ hi_ => (by first | rfl | fail))), trivial⟩) (xe_again ((t14 + 1), (ss ++ [(Stroke.mk pts)])) rfl (show (0 ≤ (t14 + 1) ∧ (t14 + 1) ≤ (ik.Strokes.length : Int)) ∧ (((ss ++ [(Stroke.mk pts)]).length : Int) = (t14 + 1)) ∧ ((ss ++ [(Stroke.mk pts)]) = (ik.Strokes.take (t14 + 1).toNat).map (mpS (fun p => p))) ∧ True from ⟨(by omega), (by simp; omega), (by rw [hs0]; exact (mapTake_succ (by omega) hi (by rw [hp1]; unfold mpS; rw [map_all (by omega)])).symm), trivial⟩) (by show (((ik.Strokes.length : Int) - (t14 + 1)).toNat : Nat) < ((ik.Strokes.length : Int) - t14).toNat; omega))
    ·refine x_reg [(0, .dec false)] [1, 4, 5, 12, 13, 14, 15] [4, 5, 750, 8062] [.fn 57 [], .ref 4 0, .ref 5 0, slStroke false ik.Strokes, I (ik.Strokes.length : Int), I t14, Bv false] [some (.box [nilA]), some (.box [.arr 750]), some (.oar [8062] 1 ss.length (oStroke 8062 ss)), some (.fam ss.length 3 (mStroke ss) (gStroke ss))] [¬ (t14 < (ik.Strokes.length : Int))] (by kernel_rfl) ⟨h1, trivial⟩ ?_
     refine xe_then ?_
     refine x_seq ?_
     refine x_false rfl ?_
     refine x_exit ?_
     refine xe_exit_then ?_
     refine xe_loop_exit ?_
     refine xe_exit_same ?_
     refine xe_then ?_
     refine x_seq ?_
     refine x_reg [] [4] [4, 750, 8062] [.ref 4 0] [some (.box [.arr 750]), some (.oar [8062] 1 ss.length (oStroke 8062 ss)), some (.fam ss.length 3 (mStroke ss) (gStroke ss))] [] (by kernel_rfl) trivial ?_
     refine xe_then ?_
     refine x_ret ?_
     refine xe_end (Ink.mk ss) (show ((Ink.mk ss) = mpI (fun p => p) ik) ∧ (True) from ⟨(by rw [hs0]; unfold mpI; rw [map_all (by omega)]), trivial⟩) (trivial) (.agg [.arr 750]) (by kernel_rfl) (.inr ⟨⟨(fun _ => rfl), rfl, rfl, oleStroke _ _ rfl⟩, rfl⟩) (fun _ => rfl) (fun _ => (by simp [tagged, taggedL, tagStroke]))
  obtain ⟨v, ⟨hh0, _⟩, hc⟩ := hh
  exact ⟨v, hh0, hc⟩

theorem copyInk_ok (ik : Ink) (ok : ∀ s ∈ ik.Strokes, okStroke' s = true) (hl : ik.Strokes.length ≤ 16) : ∃ (v : Ink), (v = ik) ∧ Con Try.prog 44 [.agg [slStroke false ik.Strokes]] true (.agg [slStroke true v.Strokes]) := by
  have hh : ∃ r : Ink, ((r = ik) ∧ (True)) ∧ CallOK Try.prog 44 [.agg [slStroke false ik.Strokes]] (lookO []) true (.agg [slStroke true r.Strokes]) (lookO []) := by
    refine fn_okX (Φ := fun r : Ink => (r = ik) ∧ (True)) [] (fun r => []) (fn := Try.f44) (nt := 5) Try.func44 rfl rfl (args := [.agg [slStroke false ik.Strokes]]) rfl (allcons (.inl ⟨rfl, by simp [tagged, taggedL, tagStroke]⟩) allnil) (res := fun r => .agg [slStroke true r.Strokes]) ?_
    refine x_seq ?_
    refine x_reg [(0, .new 1), (1, .new 2)] [1, 2] [1, 2] [.ref 1 0, .ref 2 0] [some (.box [slStroke false ik.Strokes]), some (.box [nilA])] [] (by kernel_rfl) trivial ?_
    refine xe_then ?_
    refine x_seq ?_
    obtain ⟨v_1, hx1_0, hc1⟩ := mapInk_copy ik ok hl
    refine x_reg [(1, .call [(true, .agg [slStroke false ik.Strokes]), (true, .fn 57 [])] true (.agg [slStroke true v_1.Strokes]))] [2] [2] [.ref 2 0] [some (.box [slStroke true v_1.Strokes])] [Con Try.prog 56 [.agg [slStroke false ik.Strokes], .fn 57 []] true (.agg [slStroke true v_1.Strokes]) ∧ ((.agg [slStroke false ik.Strokes] : AV) = .agg [slStroke false ik.Strokes]) ∧ ((.fn 57 [] : AV) = .fn 57 []) ∧ True] (by kernel_rfl) ⟨⟨hc1, rfl, rfl, trivial⟩, trivial⟩ ?_
    refine xe_then ?_
    refine x_ret ?_
    refine xe_end v_1 (show (v_1 = ik) ∧ (True) from ⟨(by rw [hx1_0, mp_id]), trivial⟩) (trivial) (.agg [slStroke true v_1.Strokes]) (by kernel_rfl) (.inl rfl) (fun _ => rfl) (fun _ => (by simp [tagged, taggedL, tagStroke]))
  obtain ⟨v, ⟨hh0, _⟩, hc⟩ := hh
  exact ⟨v, hh0, hc⟩




/-- The number in the middle, the lesser one of two. -/
def medI (xs : List Int) : Int := at_ (sortL xs) ((xs.length - 1) / 2)
theorem medI_mem {xs : List Int} (h : 1 ≤ xs.length) : medI xs ∈ xs := sortL_mem.1 (at_mem (by rw [sortL_len]; omega))

theorem sortL_pw (xs : List Int) : (sortL xs).Pairwise fun x y => x ≤ y := by
  have h := List.pairwise_mergeSort (le := fun (x y : Int) => decide (x ≤ y)) (fun a b c h1 h2 => by simp only [decide_eq_true_eq] at *; omega) (fun a b => by simp only [Bool.or_eq_true, decide_eq_true_eq]; omega) xs
  exact h.imp fun h => by simpa using h
theorem sortL_perm (xs : List Int) : List.Perm (sortL xs) xs := List.mergeSort_perm _ _
theorem sort_uniq {a b : List Int} (ha : a.Pairwise fun x y => x ≤ y) (hb : b.Pairwise fun x y => x ≤ y) (h : List.Perm a b) : a = b :=
  List.Perm.eq_of_pairwise (le := fun x y => x ≤ y) (fun x y _ _ h1 h2 => Int.le_antisymm h1 h2) ha hb h
/-- A number put to its place. -/
theorem ins_sort {p : List Int} {x : Int} {k : Nat} (hk : k ≤ (sortL p).length) (h1 : ∀ j, k ≤ j → j < (sortL p).length → x < at_ (sortL p) j) (h2 : k = 0 ∨ at_ (sortL p) (k - 1) ≤ x) :
    (sortL p).take k ++ [x] ++ (sortL p).drop k = sortL (p ++ [x]) := by
  have hs := sortL_pw p
  generalize hl : sortL p = l at *
  refine sort_uniq ?_ (sortL_pw _) ?_
  · have ht := hs
    rw [← List.take_append_drop k l, List.pairwise_append] at ht
    obtain ⟨ta, tb, tc⟩ := ht
    have hlow : ∀ a ∈ l.take k, a ≤ x := fun a ha => by
      obtain ⟨j, hj, e⟩ := List.getElem_of_mem ha
      rcases h2 with h2 | h2
      · subst h2; simp at ha
      · have hjk : j < k := by simp at hj; omega
        have hjl : j < l.length := by simp at hj; omega
        have he : a = at_ l j := by rw [← e, at_eq hjl]; simp
        by_cases e2 : j = k - 1
        · rw [he, e2]; exact h2
        · have := List.pairwise_iff_getElem.1 hs j (k - 1) hjl (by omega) (by omega)
          rw [he, at_eq hjl]
          rw [at_eq (by omega)] at h2
          omega
    have hhigh : ∀ b ∈ l.drop k, x ≤ b := fun b hb => by
      obtain ⟨j, hj, e⟩ := List.getElem_of_mem hb
      simp at hj
      have h := h1 (k + j) (by omega) (by omega)
      rw [at_eq (by omega)] at h
      rw [← e]; simp; omega
    rw [List.append_assoc, List.pairwise_append]
    refine ⟨ta, ?_, ?_⟩
    · rw [List.singleton_append, List.pairwise_cons]
      exact ⟨hhigh, tb⟩
    · intro a ha b hb
      simp at hb
      rcases hb with rfl | hb
      · exact hlow a ha
      · exact tc a ha b hb
  · have e : List.Perm l p := by rw [← hl]; exact sortL_perm p
    refine List.Perm.trans ?_ (sortL_perm (p ++ [x])).symm
    refine List.Perm.trans ?_ (e.append_right [x])
    rw [List.append_assoc]
    refine List.Perm.trans (List.perm_append_comm.append_left _) ?_
    rw [← List.append_assoc, List.take_append_drop]
theorem sortL_nil : sortL [] = [] := by simp [sortL]
theorem sorted_le {p : List Int} {i j : Nat} (hij : i ≤ j) (hj : j < (sortL p).length) : at_ (sortL p) i ≤ at_ (sortL p) j := by
  by_cases e : i = j
  · subst e; exact Int.le_refl _
  · have := List.pairwise_iff_getElem.1 (sortL_pw p) i j (by omega) hj (by omega)
    rw [at_eq (by omega), at_eq hj]; exact this

theorem ordL_sort (ss : List Stroke) : sortL (ordL ss) = iotaL ss.length := sort_uniq (sortL_pw _) (iota_pw _) ((sortL_perm _).trans (ordL_perm ss))

-- impl.inkOfGroup
theorem inkOfGroup_ok (ik : Ink) (gr : Group) (ok : okInk' ik = true) (hg : gr.From = 0 ∧ gr.To = (ik.Strokes.length : Int)) : ∃ (v : Ink), (v = ik) ∧ Con Try.prog 27 [.agg [slStroke false ik.Strokes], agGroup gr] true (.agg [slStroke true v.Strokes]) := by
  have hil := okI_len ok
  have hol := ordL_len ik.Strokes
  have hoi := iota_len ik.Strokes.length
  have hh : ∃ r : Ink, ((r = ik) ∧ (True)) ∧ CallOK Try.prog 27 [.agg [slStroke false ik.Strokes], agGroup gr] (lookO []) true (.agg [slStroke true r.Strokes]) (lookO []) := by
    refine fn_okX (Φ := fun r : Ink => (r = ik) ∧ (True)) [] (fun r => []) (fn := Try.f27) (nt := 37) Try.func27 rfl rfl (args := [.agg [slStroke false ik.Strokes], agGroup gr]) rfl (allcons (.inl ⟨rfl, by simp [tagged, taggedL, tagStroke]⟩) (allcons (.inl ⟨rfl, by simp [tagged, taggedL]⟩) allnil)) (res := fun r => .agg [slStroke true r.Strokes]) ?_
    refine x_seq ?_
    refine x_reg [(0, .new 2), (1, .new 3), (2, .new 4)] [2, 3, 4] [2, 3, 4] [.ref 2 0, .ref 3 0, .ref 4 0] [some (.box [slStroke false ik.Strokes]), some (bxGroup gr), some (.box [nilA])] [] (by kernel_rfl) trivial ?_
    refine xe_then ?_
    refine x_seq ?_
    obtain ⟨order_1, hx1_0, hc1⟩ := orderOf_ok ik ok
    have holn : order_1.length = ik.Strokes.length := by rw [hx1_0, hol]
    refine x_reg [(1, .lend [] [(8301, .arr 1 order_1.length (fI order_1))] [(true, .agg [slStroke false ik.Strokes])] false (.arr 8301)), (6, .nn)] [2, 4, 5] [2, 4, 8301] [.ref 2 0, .ref 4 0, .arr 8301] [some (.box [slStroke false ik.Strokes]), some (.box [nilA]), some (.arr 1 order_1.length (fI order_1))] [CallOK Try.prog 21 [.agg [slStroke false ik.Strokes]] (lookO []) false (.arr 8301) (lookO [(8301, .arr 1 order_1.length (fI order_1))]) ∧ ((.agg [slStroke false ik.Strokes] : AV) = .agg [slStroke false ik.Strokes]) ∧ True, gr.From = 0 ∧ gr.To = (order_1.length : Int)] (by kernel_rfl) ⟨⟨hc1, rfl, trivial⟩, ⟨(by omega), (by omega)⟩, trivial⟩ ?_
    refine xe_then ?_
    refine x_seq ?_
    refine x_weak [(7201, 8301)] (T := [(2, .ref 2 0), (4, .ref 4 0), (5, .arr 7201)]) (O := [(2, .box [slStroke false ik.Strokes]), (4, .box [nilA]), (7201, .arr 1 order_1.length (fI order_1))]) rfl (⟨.inl rfl, .inl rfl, .inl rfl, trivial⟩) (⟨.inl rfl, .inl rfl, .inl rfl, trivial⟩) ?_
    obtain ⟨list'_2, hx2_0, hc2⟩ := sort_ok order_1 (by omega)
    have hsl : list'_2 = iotaL ik.Strokes.length := by rw [hx2_0, hx1_0]; exact ordL_sort _
    have hsn : list'_2.length = ik.Strokes.length := by rw [hsl, iota_len]
    refine x_reg [(1, .lend [(7201, .arr 1 order_1.length (fI order_1), .arr 1 list'_2.length (fI list'_2))] [] [(true, .arr 7201)] false (.tup []))] [2, 4, 5] [2, 4, 7201] [.ref 2 0, .ref 4 0, .arr 7201] [some (.box [slStroke false ik.Strokes]), some (.box [nilA]), some (.arr 1 list'_2.length (fI list'_2))] [CallOK Try.prog 43 [.arr 7201] (lookO [(7201, .arr 1 order_1.length (fI order_1))]) false (.tup []) (lookO [(7201, .arr 1 list'_2.length (fI list'_2))]) ∧ ((.arr 7201 : AV) = .arr 7201) ∧ (((.arr 1 order_1.length (fI order_1) : Ob) = .arr 1 order_1.length (fI order_1) ∨ obLe noOb true (.arr 1 order_1.length (fI order_1)) (.arr 1 order_1.length (fI order_1))) ∧ taggedO false (.arr 1 order_1.length (fI order_1))) ∧ True] (by kernel_rfl) ⟨⟨hc2, rfl, ⟨.inl rfl, fun _ _ => tagcI false _⟩, trivial⟩, trivial⟩ ?_
    refine xe_then ?_
    refine x_seq ?_
    refine x_reg [(0, .new 6)] [2, 4, 5, 6] [2, 4, 6, 7201] [.ref 2 0, .ref 4 0, .arr 7201, .ref 6 0] [some (.box [slStroke false ik.Strokes]), some (.box [nilA]), some (.box [nilA]), some (.arr 1 list'_2.length (fI list'_2))] [] (by kernel_rfl) trivial ?_
    refine xe_then ?_
    refine x_seq ?_
    refine x_seq ?_
    refine x_reg [] [2, 4, 6, 18, 19, 20] [2, 4, 6, 7201] [.ref 2 0, .ref 4 0, .ref 6 0, .arr 7201, I (list'_2.length : Int), I 0] [some (.box [slStroke false ik.Strokes]), some (.box [nilA]), some (.box [nilA]), some (.arr 1 list'_2.length (fI list'_2))] [] (by kernel_rfl) trivial ?_
    refine xe_then ?_
    refine x_block ?_
    refine x_nilC 6 0 760 1 (fun _ => []) rfl (by kernel_rfl) ?_
    refine x_weak [] (T := [(2, .ref 2 0), (4, .ref 4 0), (6, .ref 6 0), (18, slI true list'_2), (19, I (list'_2.length : Int)), (20, I 0)]) (O := [(2, .box [slStroke false ik.Strokes]), (4, .box [nilA]), (6, .box [.arr 760]), (760, .arr 1 (([] : List Stroke).length) (fStroke false ([] : List Stroke)))]) rfl (⟨.inl rfl, .inl rfl, .inl rfl, .inr ⟨(fun _ => rfl), rfl, rfl, fun i _ => .inl rfl⟩, .inl rfl, .inl rfl, trivial⟩) (⟨.inl rfl, .inl rfl, .inl rfl, .inr ⟨rfl, (by first | rfl | (simp; done) | (simp; omega) | omega), fun i_ hi_ => absurd hi_ (Nat.not_lt_zero _)⟩, trivial⟩) ?_
    refine x_loop (X := Int × (List Stroke)) (fun x => mkS [(2, .ref 2 0), (4, .ref 4 0), (6, .ref 6 0), (18, slI true list'_2), (19, I (list'_2.length : Int)), (20, I x.1)] [(2, .box [slStroke false ik.Strokes]), (4, .box [nilA]), (6, .box [.arr 760]), (760, .arr 1 x.2.length (fStroke false x.2))]) (fun x => (0 ≤ x.1 ∧ x.1 ≤ (ik.Strokes.length : Int)) ∧ ((x.2.length : Int) = x.1) ∧ (x.2 = ik.Strokes.take x.1.toNat) ∧ True) (fun x => ((ik.Strokes.length : Int) - x.1).toNat) (0, ([] : List Stroke)) rfl (show (0 ≤ (0 : Int) ∧ (0 : Int) ≤ (ik.Strokes.length : Int)) ∧ ((([] : List Stroke).length : Int) = (0 : Int)) ∧ (([] : List Stroke) = ik.Strokes.take (0 : Int).toNat) ∧ True from ⟨(by omega), (by rfl), (by rfl), trivial⟩) (fun x hI => ?_)
    obtain ⟨t20, ss⟩ := x
    obtain ⟨hi0, hl0, hs0, _⟩ : (0 ≤ t20 ∧ t20 ≤ (ik.Strokes.length : Int)) ∧ ((ss.length : Int) = t20) ∧ (ss = ik.Strokes.take t20.toNat) ∧ True := hI
    show XW _ _ _ _ (mkS [(2, .ref 2 0), (4, .ref 4 0), (6, .ref 6 0), (18, slI true list'_2), (19, I (list'_2.length : Int)), (20, I t20)] [(2, .box [slStroke false ik.Strokes]), (4, .box [nilA]), (6, .box [.arr 760]), (760, .arr 1 ss.length (fStroke false ss))]) _ _
    refine x_seq ?_
    by_cases h1 : t20 < (list'_2.length : Int)
    ·have hi : t20.toNat < ik.Strokes.length := by omega
     have hia : at_ list'_2 t20.toNat = t20 := by rw [hsl, iota_at hi]; omega
     refine x_reg [(0, .dec true)] [2, 4, 6, 18, 19, 20, 21] [2, 4, 6, 760] [.ref 2 0, .ref 4 0, .ref 6 0, slI true list'_2, I (list'_2.length : Int), I t20, Bv true] [some (.box [slStroke false ik.Strokes]), some (.box [nilA]), some (.box [.arr 760]), some (.arr 1 ss.length (fStroke false ss))] [t20 < (list'_2.length : Int)] (by kernel_rfl) ⟨h1, trivial⟩ ?_
     refine xe_then ?_
     refine x_seq ?_
     refine x_true rfl ?_
     refine x_skip ?_
     refine xe_then ?_
     refine x_seq ?_
     refine x_block ?_
     refine x_seq ?_
     refine x_reg [] [2, 4, 6, 8, 18, 19, 20] [2, 4, 6, 760] [.ref 2 0, .ref 4 0, .ref 6 0, I (at_ list'_2 t20.toNat), slI true list'_2, I (list'_2.length : Int), I t20] [some (.box [slStroke false ik.Strokes]), some (.box [nilA]), some (.box [.arr 760]), some (.arr 1 ss.length (fStroke false ss))] [(0 : Int) ≤ t20 ∧ t20 < (list'_2.length : Int)] (by kernel_rfl) ⟨⟨(by omega), (by omega)⟩, trivial⟩ ?_
     refine xe_then ?_
     refine x_reg [(7, .new 31), (8, .new 32)] [2, 4, 6, 18, 19, 20] [2, 4, 6, 32] [.ref 2 0, .ref 4 0, .ref 6 0, slI true list'_2, I (list'_2.length : Int), I t20] [some (.box [slStroke false ik.Strokes]), some (.box [nilA]), some (.box [.arr 32]), some (.arr 1 (ss.length + 1) (catF ss.length (fStroke false ss) (litF [slPoint false ((at_ ik.Strokes ((at_ list'_2 t20.toNat).toNat)).Points)] 1)))] [(0 : Int) ≤ (at_ list'_2 t20.toNat) ∧ (at_ list'_2 t20.toNat) < (ik.Strokes.length : Int), (ss.length + 1) * 24 ≤ 140737488355328] (by kernel_rfl) ⟨⟨(by omega), (by omega)⟩, (by omega), trivial⟩ ?_
     refine xe_block 1 ?_
     refine xe_then ?_
     refine x_reg [] [2, 4, 6, 18, 19, 20] [2, 4, 6, 32] [.ref 2 0, .ref 4 0, .ref 6 0, slI true list'_2, I (list'_2.length : Int), I (t20 + 1)] [some (.box [slStroke false ik.Strokes]), some (.box [nilA]), some (.box [.arr 32]), some (.arr 1 (ss.length + 1) (catF ss.length (fStroke false ss) (litF [slPoint false ((at_ ik.Strokes ((at_ list'_2 t20.toNat).toNat)).Points)] 1)))] [inR .i64 (t20 + 1)] (by kernel_rfl) ⟨(inR_i64 (by omega) (by omega)), trivial⟩ ?_
     refine xe_weak [(760, 32)] (T := [(2, .ref 2 0), (4, .ref 4 0), (6, .ref 6 0), (18, slI true list'_2), (19, I (list'_2.length : Int)), (20, I (t20 + 1))]) (O := [(2, .box [slStroke false ik.Strokes]), (4, .box [nilA]), (6, .box [.arr 760]), (760, .arr 1 ((ss ++ [(at_ ik.Strokes ((at_ list'_2 t20.toNat).toNat))]).length) (fStroke false (ss ++ [(at_ ik.Strokes ((at_ list'_2 t20.toNat).toNat))])))]) rfl (⟨.inl rfl, .inl rfl, .inl rfl, .inl rfl, .inl rfl, .inl rfl, trivial⟩) (⟨.inl rfl, .inl rfl, .inl rfl, .inr ⟨rfl, (by first | rfl | (simp; done) | (simp; omega) | omega), fun i_ hi_ => .inl (cat_snoc (enc := (cStroke false)) (xs := ss) rfl i_ hi_)⟩, trivial⟩) (xe_again ((t20 + 1), (ss ++ [(at_ ik.Strokes ((at_ list'_2 t20.toNat).toNat))])) rfl (show (0 ≤ (t20 + 1) ∧ (t20 + 1) ≤ (ik.Strokes.length : Int)) ∧ (((ss ++ [(at_ ik.Strokes ((at_ list'_2 t20.toNat).toNat))]).length : Int) = (t20 + 1)) ∧ ((ss ++ [(at_ ik.Strokes ((at_ list'_2 t20.toNat).toNat))]) = ik.Strokes.take (t20 + 1).toNat) ∧ True from ⟨(by omega), (by simp; omega), (by rw [hs0]; exact (take_succ_at (by omega) hi (by rw [hia])).symm), trivial⟩) (by show (((ik.Strokes.length : Int) - (t20 + 1)).toNat : Nat) < ((ik.Strokes.length : Int) - t20).toNat; omega))
    ·have hfin : ss = ik.Strokes := by rw [hs0]; exact List.take_of_length_le (by omega)
     have hfl : ss.length = ik.Strokes.length := by rw [hfin]
     refine x_reg [(0, .dec false)] [2, 4, 6, 18, 19, 20, 21] [2, 4, 6, 760] [.ref 2 0, .ref 4 0, .ref 6 0, slI true list'_2, I (list'_2.length : Int), I t20, Bv false] [some (.box [slStroke false ik.Strokes]), some (.box [nilA]), some (.box [.arr 760]), some (.arr 1 ss.length (fStroke false ss))] [¬ (t20 < (list'_2.length : Int))] (by kernel_rfl) ⟨h1, trivial⟩ ?_
     refine xe_then ?_
     refine x_seq ?_
     refine x_false rfl ?_
     refine x_exit ?_
     refine xe_exit_then ?_
     refine xe_loop_exit ?_
     refine xe_exit_same ?_
     refine xe_then ?_
     refine x_seq ?_
     obtain ⟨v_3, hx3_0, hc3⟩ := copyInk_ok (Ink.mk ss) (by first | exact okI_mem ok | (simp only [hfin]; exact okI_mem ok)) (by first | omega | (dsimp only; omega))
     refine x_reg [(1, .call [(false, .agg [slStroke false ss])] true (.agg [slStroke true v_3.Strokes]))] [4] [4] [.ref 4 0] [some (.box [slStroke true v_3.Strokes])] [Con Try.prog 44 [.agg [slStroke false ss]] true (.agg [slStroke true v_3.Strokes]) ∧ (((false = true → true = true) ∧ 1 = 1 ∧ ss.length = ss.length ∧ ∀ i, i < ss.length → (fStroke false ss) i = (fStroke false ss) i ∨ (AV.idsL ((fStroke false ss) i) = [] ∧ leL (fun _ => none) false ((fStroke false ss) i) ((fStroke false ss) i))) ∧ ([] : List AV) = []) ∧ True] (by kernel_rfl) ⟨⟨hc3, ⟨⟨(fun h => by cases h), rfl, rfl, fun i _ => .inl rfl⟩, rfl⟩, trivial⟩, trivial⟩ ?_
     refine xe_then ?_
     refine x_ret ?_
     refine xe_end v_3 (show (v_3 = ik) ∧ (True) from ⟨(by rw [hx3_0, hfin]), trivial⟩) (trivial) (.agg [slStroke true v_3.Strokes]) (by kernel_rfl) (.inl rfl) (fun _ => rfl) (fun _ => (by simp [tagged, taggedL, tagStroke]))
  obtain ⟨v, ⟨hh0, _⟩, hc⟩ := hh
  exact ⟨v, hh0, hc⟩


-- impl.InkOfGroup
theorem InkOfGroup_ok (ik : Ink) (gr : Group) (ok : okInk' ik = true) (hg : (gr.From = 0 ∧ gr.To = (ik.Strokes.length : Int)) ∧ 1 ≤ ik.Strokes.length) : ∃ (v : Ink) (c : Int), (v = ik ∧ c = 0) ∧ Con Try.prog 10 [.agg [slStroke false ik.Strokes], agGroup gr] true (.tup [.agg [slStroke true v.Strokes], I c]) := by
  have hh : ∃ r : Ink × Int, ((r.1 = ik ∧ r.2 = 0) ∧ (True)) ∧ CallOK Try.prog 10 [.agg [slStroke false ik.Strokes], agGroup gr] (lookO []) true (.tup [.agg [slStroke true r.1.Strokes], I r.2]) (lookO []) := by
    refine fn_okX (Φ := fun r : Ink × Int => (r.1 = ik ∧ r.2 = 0) ∧ (True)) [] (fun r => []) (fn := Try.f10) (nt := 18) Try.func10 rfl rfl (args := [.agg [slStroke false ik.Strokes], agGroup gr]) rfl (allcons (.inl ⟨rfl, by simp [tagged, taggedL, tagStroke]⟩) (allcons (.inl ⟨rfl, by simp [tagged, taggedL]⟩) allnil)) (res := fun r => .tup [.agg [slStroke true r.1.Strokes], I r.2]) ?_
    refine x_seq ?_
    refine x_reg [(0, .new 2), (1, .new 3), (2, .new 4)] [2, 3, 4] [2, 3, 4] [.ref 2 0, .ref 3 0, .ref 4 0] [some (.box [slStroke false ik.Strokes]), some (bxGroup gr), some (.box [nilA])] [] (by kernel_rfl) trivial ?_
    refine xe_then ?_
    refine x_seq ?_
    refine x_seq ?_
    refine x_reg [(1, .call [(true, .agg [slStroke false ik.Strokes])] true (Bv true))] [2, 3, 4, 8] [2, 3, 4] [.ref 2 0, .ref 3 0, .ref 4 0, Bv false] [some (.box [slStroke false ik.Strokes]), some (bxGroup gr), some (.box [nilA])] [Con Try.prog 20 [.agg [slStroke false ik.Strokes]] true (Bv true) ∧ ((.agg [slStroke false ik.Strokes] : AV) = .agg [slStroke false ik.Strokes]) ∧ True] (by kernel_rfl) ⟨⟨(con_bool ok (ValidInk_ok ik)), rfl, trivial⟩, trivial⟩ ?_
    refine xe_then ?_
    refine x_false rfl ?_
    refine x_skip ?_
    refine xe_then ?_
    refine x_seq ?_
    refine x_seq ?_
    refine x_reg [(2, .call [(true, .agg [slStroke false ik.Strokes]), (true, agGroup gr)] true (Bv true))] [2, 3, 4, 13] [2, 3, 4] [.ref 2 0, .ref 3 0, .ref 4 0, Bv false] [some (.box [slStroke false ik.Strokes]), some (bxGroup gr), some (.box [nilA])] [Con Try.prog 26 [.agg [slStroke false ik.Strokes], agGroup gr] true (Bv true) ∧ ((.agg [slStroke false ik.Strokes] : AV) = .agg [slStroke false ik.Strokes]) ∧ ((agGroup gr : AV) = agGroup gr) ∧ True] (by kernel_rfl) ⟨⟨(con_bool (by simp [hg.1.1, hg.1.2]; omega) (isGroup_ok ik gr)), rfl, rfl, trivial⟩, trivial⟩ ?_
    refine xe_then ?_
    refine x_false rfl ?_
    refine x_skip ?_
    refine xe_then ?_
    refine x_seq ?_
    obtain ⟨v_1, hx1_0, hc1⟩ := inkOfGroup_ok ik gr ok hg.1
    refine x_reg [(2, .call [(true, .agg [slStroke false ik.Strokes]), (true, agGroup gr)] true (.agg [slStroke true v_1.Strokes]))] [4, 5] [4] [.ref 4 0, I 0] [some (.box [slStroke true v_1.Strokes])] [Con Try.prog 27 [.agg [slStroke false ik.Strokes], agGroup gr] true (.agg [slStroke true v_1.Strokes]) ∧ ((.agg [slStroke false ik.Strokes] : AV) = .agg [slStroke false ik.Strokes]) ∧ ((agGroup gr : AV) = agGroup gr) ∧ True] (by kernel_rfl) ⟨⟨hc1, rfl, rfl, trivial⟩, trivial⟩ ?_
    refine xe_then ?_
    refine x_ret ?_
    refine xe_end (v_1, 0) (show (v_1 = ik ∧ 0 = 0) ∧ (True) from ⟨(by first | exact ⟨by assumption, rfl⟩ | exact ⟨hx1_0, rfl⟩), trivial⟩) (trivial) (.tup [.agg [slStroke true v_1.Strokes], I 0]) (by kernel_rfl) (.inl rfl) (fun _ => rfl) (fun _ => (by simp [tagged, taggedL, tagStroke]))
  obtain ⟨⟨v, c⟩, ⟨hh0, _⟩, hc⟩ := hh
  exact ⟨v, c, hh0, hc⟩


theorem down_spec (n : Int) {d : Int} (hd : 0 < d) : (Int.tmod n d < 0 → Int.tdiv n d - 1 = n / d) ∧ (¬ Int.tmod n d < 0 → Int.tdiv n d = n / d) := by
  have h1 := Int.mul_tdiv_add_tmod n d
  have h2 := Int.tmod_lt_of_pos n hd
  have h3 := Int.lt_tmod_of_pos n hd
  generalize Int.tdiv n d = q at *
  generalize Int.tmod n d = r at *
  subst h1
  constructor
  · intro h
    have e : d * q + r = (r + d) + d * (q - 1) := by rw [Int.mul_sub, Int.mul_one]; omega
    rw [e, Int.add_mul_ediv_left _ _ (by omega), Int.ediv_eq_zero_of_lt (by omega) (by omega)]; omega
  · intro h
    rw [Int.add_comm, Int.add_mul_ediv_left _ _ (by omega), Int.ediv_eq_zero_of_lt (by omega) (by omega)]; omega
theorem quo_bd {n r : Int} (h : 0 ≤ n) (hr : 0 < r) : 0 ≤ n / r ∧ n / r ≤ n := ⟨Int.ediv_nonneg h (by omega), Int.ediv_le_self _ h⟩
theorem tdiv_bd (n d : Int) : ((Int.tdiv n d).natAbs : Int) ≤ (n.natAbs : Int) := by
  rw [Int.natAbs_tdiv]
  exact Int.ofNat_le.2 (Nat.div_le_self _ _)

/-- The integer nearest to a quotient by a positive number, halves up. -/
def nearI (n d : Int) : Int := (2 * n + d) / (2 * d)
theorem near_spec (n : Int) {d : Int} (hd : 0 < d) : (d - (n - n / d * d) ≤ n - n / d * d → n / d + 1 = nearI n d) ∧ (¬ d - (n - n / d * d) ≤ n - n / d * d → n / d = nearI n d) := by
  have h1 := Int.mul_ediv_add_emod n d
  have h2 := Int.emod_nonneg n (b := d) (by omega)
  have h3 := Int.emod_lt_of_pos n hd
  unfold nearI
  generalize n / d = q at *
  generalize n % d = r at *
  have e0 : q * d = d * q := Int.mul_comm _ _
  have e3 : 2 * d * q = 2 * (d * q) := Int.mul_assoc _ _ _
  constructor
  · intro h
    have e : 2 * n + d = (2 * r - d) + 2 * d * (q + 1) := by rw [Int.mul_add, e3]; omega
    rw [e, Int.add_mul_ediv_left _ _ (by omega), Int.ediv_eq_zero_of_lt (by omega) (by omega)]; omega
  · intro h
    have e : 2 * n + d = (2 * r + d) + 2 * d * q := by rw [e3]; omega
    rw [e, Int.add_mul_ediv_left _ _ (by omega), Int.ediv_eq_zero_of_lt (by omega) (by omega)]; omega
theorem rest_bd (n : Int) {d : Int} (hd : 0 < d) : 0 ≤ n - n / d * d ∧ n - n / d * d < d := by
  have h1 := Int.mul_ediv_add_emod n d
  have h2 := Int.emod_nonneg n (b := d) (by omega)
  have h3 := Int.emod_lt_of_pos n hd
  rw [Int.mul_comm] at h1
  omega
theorem ediv_bd (n : Int) {d : Int} (hd : 0 < d) : -(n.natAbs : Int) ≤ n / d ∧ n / d ≤ (n.natAbs : Int) := by
  constructor
  · rw [Int.le_ediv_iff_mul_le hd]
    have : (n.natAbs : Int) * 1 ≤ (n.natAbs : Int) * d := Int.mul_le_mul_of_nonneg_left (by omega) (by omega)
    rw [Int.neg_mul]; omega
  · have h1 : (n.natAbs : Int) * 1 ≤ (n.natAbs : Int) * d := Int.mul_le_mul_of_nonneg_left (by omega) (by omega)
    have b : n / d < (n.natAbs : Int) + 1 := Int.ediv_lt_of_lt_mul hd (by rw [Int.add_mul, Int.one_mul]; omega)
    omega
theorem near_between {x r d : Int} (hd : 0 < d) (h0 : 0 ≤ r) (h1 : r ≤ d) : (0 ≤ x → 0 ≤ nearI (x * r) d ∧ nearI (x * r) d ≤ x) ∧ (x ≤ 0 → x ≤ nearI (x * r) d ∧ nearI (x * r) d ≤ 0) := by
  unfold nearI
  constructor
  · intro hx
    have a1 : x * r ≤ x * d := Int.mul_le_mul_of_nonneg_left h1 hx
    have a2 : 0 ≤ x * r := Int.mul_nonneg hx h0
    have e : (x + 1) * (2 * d) = 2 * (x * d) + 2 * d := by rw [Int.add_mul, Int.one_mul, Int.mul_left_comm]
    have b : (2 * (x * r) + d) / (2 * d) < x + 1 := Int.ediv_lt_of_lt_mul (by omega) (by rw [e]; omega)
    exact ⟨Int.ediv_nonneg (by omega) (by omega), by omega⟩
  · intro hx
    have a1 : x * d ≤ x * r := Int.mul_le_mul_of_nonpos_left hx h1
    have a2 : x * r ≤ 0 := Int.mul_nonpos_of_nonpos_of_nonneg hx h0
    have e : x * (2 * d) = 2 * (x * d) := Int.mul_left_comm _ _ _
    have b : (2 * (x * r) + d) / (2 * d) < 0 + 1 := Int.ediv_lt_of_lt_mul (by omega) (by omega)
    exact ⟨Int.le_ediv_of_mul_le (by omega) (by rw [e]; omega), by omega⟩
theorem near_zero {x d : Int} (hd : 0 < d) : nearI (x * 0) d = 0 := by
  have := near_between (x := x) hd (Int.le_refl 0) (by omega)
  simp only [nearI, Int.mul_zero, Int.zero_add]
  exact Int.ediv_eq_zero_of_lt (by omega) (by omega)
theorem near_full {x d : Int} (hd : 0 < d) : nearI (x * d) d = x := by
  have e : 2 * (x * d) + d = d + 2 * d * x := by rw [Int.mul_comm x d, Int.mul_assoc]; omega
  rw [nearI, e, Int.add_mul_ediv_left _ _ (by omega), Int.ediv_eq_zero_of_lt (by omega) (by omega)]; omega
theorem mulP_bd {x y A B : Int} (h0 : 0 ≤ x) (h1 : x ≤ A) (h2 : 0 ≤ y) (h3 : y ≤ B) : 0 ≤ x * y ∧ x * y ≤ A * B :=
  ⟨Int.mul_nonneg h0 h2, Int.mul_le_mul h1 h3 h2 (by omega)⟩
theorem mulS_bd {x y A B : Int} (h0 : -A ≤ x) (h1 : x ≤ A) (h2 : 0 ≤ y) (h3 : y ≤ B) : -(A * B) ≤ x * y ∧ x * y ≤ A * B := by
  rcases Int.le_total 0 x with h | h
  · have := mulP_bd h h1 h2 h3; omega
  · have := mulP_bd (x := -x) (by omega) (by omega : -x ≤ A) h2 h3
    rw [Int.neg_mul] at this; omega

theorem bitLen_spec (x : Nat) (h : x < 2 ^ 64) : x < 2 ^ Lib.bitLen x ∧ ∀ k, x < 2 ^ k → Lib.bitLen x ≤ k := by
  induction x using Nat.strongRecOn with
  | _ x ih =>
    by_cases h0 : x = 0
    · subst h0
      have : Lib.bitLen 0 = 0 := by decide
      rw [this]
      exact ⟨by decide, fun k _ => Nat.zero_le _⟩
    · have e := Lib.bitLen_half x h0 h
      obtain ⟨h1, h2⟩ := ih (x / 2) (by omega) (by omega)
      rw [e]
      refine ⟨by rw [Nat.pow_add]; omega, fun k hk => ?_⟩
      cases k with
      | zero => simp at hk; omega
      | succ k =>
        have := h2 k (by rw [Nat.pow_succ] at hk; omega)
        omega
theorem sq_le {a b : Int} (h0 : 0 ≤ a) (h : a ≤ b) : a * a ≤ b * b := Int.mul_le_mul h h h0 (by omega)
theorem sq_lt {a b : Int} (h0 : 0 ≤ b) (h : a * a < b * b) : a < b := by
  by_cases h' : a < b
  · exact h'
  · have := sq_le h0 (Int.not_lt.1 h'); omega
def rootN : Nat → Nat
  | 0 => 0
  | n + 1 => if (rootN n + 1) * (rootN n + 1) ≤ n + 1 then rootN n + 1 else rootN n
theorem rootN_spec (n : Nat) : rootN n * rootN n ≤ n ∧ n < (rootN n + 1) * (rootN n + 1) := by
  induction n with
  | zero => simp [rootN]
  | succ n ih =>
    unfold rootN
    split
    · rename_i h
      refine ⟨h, ?_⟩
      have : (rootN n + 1 + 1) * (rootN n + 1 + 1) = (rootN n + 1) * (rootN n + 1) + 2 * (rootN n + 1) + 1 := by
        generalize rootN n + 1 = a
        rw [Nat.add_mul, Nat.mul_add]; omega
      omega
    · omega
/-- The greatest number whose square is at most n. -/
def rootI (n : Int) : Int := (rootN n.toNat : Int)
theorem rootI_spec {n : Int} (h : 0 ≤ n) : 0 ≤ rootI n ∧ rootI n * rootI n ≤ n ∧ n < (rootI n + 1) * (rootI n + 1) := by
  have := rootN_spec n.toNat
  unfold rootI
  refine ⟨by omega, ?_, ?_⟩
  · have h1 : ((rootN n.toNat * rootN n.toNat : Nat) : Int) ≤ (n.toNat : Int) := Int.ofNat_le.2 this.1
    rw [Int.natCast_mul] at h1; omega
  · have h1 : ((n.toNat : Nat) : Int) < (((rootN n.toNat + 1) * (rootN n.toNat + 1) : Nat) : Int) := Int.ofNat_lt.2 this.2
    rw [Int.natCast_mul] at h1
    have e : ((rootN n.toNat + 1 : Nat) : Int) = (rootN n.toNat : Int) + 1 := by omega
    rw [e] at h1; omega
theorem rootI_eq {n r : Int} (h0 : 0 ≤ r) (h1 : r * r ≤ n) (h2 : n < (r + 1) * (r + 1)) : rootI n = r := by
  have hn : 0 ≤ n := Int.le_trans (Int.mul_nonneg h0 h0) h1
  obtain ⟨a, b, c⟩ := rootI_spec hn
  have e1 : rootI n < r + 1 := sq_lt (by omega) (by omega)
  have e2 : r < rootI n + 1 := sq_lt (by omega) (by omega)
  omega
theorem rootI_bd {n B : Int} (h : 0 ≤ n) (hB : 0 ≤ B) (h2 : n < (B + 1) * (B + 1)) : 0 ≤ rootI n ∧ rootI n ≤ B := by
  obtain ⟨a, b, c⟩ := rootI_spec h
  have : rootI n < B + 1 := sq_lt (by omega) (by omega)
  omega
/-- A step of the way down. -/
theorem newton {n r : Int} (hr : 0 < r) : n < ((r + n / r) / 2 + 1) * ((r + n / r) / 2 + 1) := by
  obtain ⟨m, hm⟩ : ∃ m, m = n / r := ⟨_, rfl⟩
  have h1 : n < r * (m + 1) := by
    have := Int.lt_mul_ediv_self_add (x := n) hr
    rw [← hm] at this; rw [Int.mul_add]; omega
  rw [← hm]
  obtain ⟨q, hq⟩ : ∃ q, q = (r + m) / 2 := ⟨_, rfl⟩
  rw [← hq]
  have h2 : r + m + 1 ≤ 2 * (q + 1) := by omega
  by_cases h0 : n < 0
  · have : 0 ≤ (q + 1) * (q + 1) := by
      rcases Int.le_total 0 (q + 1) with h | h
      · exact Int.mul_nonneg h h
      · exact Int.mul_nonneg_of_nonpos_of_nonpos h h
    omega
  have h0 := Int.not_lt.1 h0
  have hm0 : 0 ≤ m := by rw [hm]; exact Int.ediv_nonneg h0 (by omega)
  have h3 := sq_le (show 0 ≤ r + m + 1 by omega) h2
  have h4 : (2 * (q + 1)) * (2 * (q + 1)) = 4 * ((q + 1) * (q + 1)) := by
    generalize q + 1 = a
    rw [show (2 * a) * (2 * a) = (2 * 2) * (a * a) by rw [Int.mul_assoc, Int.mul_left_comm a 2 a, ← Int.mul_assoc]]; omega
  have h5 : 4 * (r * (m + 1)) ≤ (r + m + 1) * (r + m + 1) := by
    have h6 : 0 ≤ (r - (m + 1)) * (r - (m + 1)) := by
      rcases Int.le_total 0 (r - (m + 1)) with h | h
      · exact Int.mul_nonneg h h
      · exact Int.mul_nonneg_of_nonpos_of_nonpos h h
    have e : r + m + 1 = r + (m + 1) := by omega
    rw [e]
    generalize m + 1 = k at h6 ⊢
    have e1 : (r - k) * (r - k) = r * r - 2 * (r * k) + k * k := by rw [Int.sub_mul, Int.mul_sub, Int.mul_sub, Int.mul_comm k r]; omega
    have e2 : (r + k) * (r + k) = r * r + 2 * (r * k) + k * k := by rw [Int.add_mul, Int.mul_add, Int.mul_add, Int.mul_comm k r]; omega
    omega
  omega
theorem newton_end {n r : Int} (hr : 0 < r) (h : ¬ (r + n / r) / 2 < r) : r * r ≤ n := by
  have h1 : r ≤ n / r := by omega
  have h2 := Int.mul_ediv_self_le (x := n) (k := r) (by omega)
  exact Int.le_trans (Int.mul_le_mul_of_nonneg_left h1 (by omega)) h2

theorem root0 {n : Int} (h0 : 0 ≤ n) (h1 : n ≤ 1000000000000000) : (Lib.bitLen n.toNat ≤ 50) ∧ (1 ≤ 1 * ((2 ^ ((((Lib.bitLen n.toNat : Nat) : Int) + 1) / 2).toNat : Nat) : Int) ∧ 1 * ((2 ^ ((((Lib.bitLen n.toNat : Nat) : Int) + 1) / 2).toNat : Nat) : Int) ≤ 33554432) ∧
    n < (1 * ((2 ^ ((((Lib.bitLen n.toNat : Nat) : Int) + 1) / 2).toNat : Nat) : Int) + 1) * (1 * ((2 ^ ((((Lib.bitLen n.toNat : Nat) : Int) + 1) / 2).toNat : Nat) : Int) + 1) := by
  obtain ⟨a, b⟩ := bitLen_spec n.toNat (by omega)
  have hL := b 50 (by omega)
  generalize Lib.bitLen n.toNat = L at *
  have e : (((L : Int) + 1) / 2).toNat = (L + 1) / 2 := by omega
  rw [e]
  have hk : (L + 1) / 2 ≤ 25 := by omega
  have h3 : 2 ^ ((L + 1) / 2) ≤ 2 ^ 25 := Nat.pow_le_pow_right (by decide) hk
  have h4 : 1 ≤ 2 ^ ((L + 1) / 2) := Nat.one_le_two_pow
  have h5 : 2 ^ L ≤ 2 ^ ((L + 1) / 2) * 2 ^ ((L + 1) / 2) := by rw [← Nat.pow_add]; exact Nat.pow_le_pow_right (by decide) (by omega)
  generalize 2 ^ ((L + 1) / 2) = R at *
  have h6 : n.toNat < R * R := Nat.lt_of_lt_of_le a h5
  have h7 : ((n.toNat : Nat) : Int) < ((R * R : Nat) : Int) := Int.ofNat_lt.2 h6
  rw [Int.natCast_mul] at h7
  refine ⟨hL, by omega, ?_⟩
  have e2 : (1 * (R : Int) + 1) * (1 * (R : Int) + 1) = (R : Int) * R + 2 * R + 1 := by rw [Int.one_mul, Int.add_mul, Int.mul_add]; omega
  omega
theorem div_bd {n r : Int} (h : 0 ≤ n) (hr : 0 < r) : 0 ≤ n / r ∧ n / r ≤ n := ⟨Int.ediv_nonneg h (by omega), Int.ediv_le_self _ h⟩
theorem newton_pos {n q : Int} (h : 0 < n) (hq : 0 ≤ q) (h2 : n < (q + 1) * (q + 1)) : 0 < q := by
  by_cases e : q = 0
  · subst e; omega
  · omega

def farI (a b : Point) : Int := (a.X - b.X) * (a.X - b.X) + (a.Y - b.Y) * (a.Y - b.Y)
theorem sq_bd {x B : Int} (h1 : -B ≤ x) (h2 : x ≤ B) : 0 ≤ x * x ∧ x * x ≤ B * B := by
  rcases Int.le_total 0 x with h | h
  · exact ⟨Int.mul_nonneg h h, sq_le h h2⟩
  · have := sq_le (a := -x) (b := B) (by omega) (by omega)
    rw [Int.neg_mul_neg] at this
    exact ⟨Int.mul_nonneg_of_nonpos_of_nonpos h h, this⟩
theorem far_bd {a b : Point} (ha : okP a = true) (hb : okP b = true) : (0 ≤ (a.X - b.X) * (a.X - b.X) ∧ (a.X - b.X) * (a.X - b.X) ≤ 16769025) ∧ (0 ≤ (a.Y - b.Y) * (a.Y - b.Y) ∧ (a.Y - b.Y) * (a.Y - b.Y) ≤ 16769025) := by
  have h1 := okP_iff.1 ha
  have h2 := okP_iff.1 hb
  exact ⟨sq_bd (B := 4095) (by omega) (by omega), sq_bd (B := 4095) (by omega) (by omega)⟩
/-- The length of a segment. -/
def segI (a b : Point) : Int := rootI (256 * farI a b)
theorem segI_bd {a b : Point} (ha : okP a = true) (hb : okP b = true) : (0 ≤ farI a b ∧ farI a b ≤ 33538050) ∧ 0 ≤ segI a b ∧ segI a b ≤ 92659 := by
  have := far_bd ha hb
  have h : 0 ≤ farI a b ∧ farI a b ≤ 33538050 := by unfold farI; omega
  exact ⟨h, rootI_bd (by omega) (by decide) (by omega)⟩

/-- The length of the first points' way: segments that end ahead of the k-th point. -/
def sumS (xs : List Point) : Nat → Int
  | 0 => 0
  | k + 1 => sumS xs k + (if k = 0 then 0 else segI (at_ xs (k - 1)) (at_ xs k))
theorem sumS_succ {xs : List Point} {i : Int} (h : 1 ≤ i) : sumS xs (i + 1).toNat = sumS xs i.toNat + segI (at_ xs (i - 1).toNat) (at_ xs i.toNat) := by
  have e1 : (i + 1).toNat = i.toNat + 1 := by omega
  have e2 : (i - 1).toNat = i.toNat - 1 := by omega
  have e3 : ¬ i.toNat = 0 := by omega
  rw [e1, e2]; simp [sumS, e3]
/-- How often the way changes between left and right, and the last difference: over the segments that end ahead of the k-th point. -/
def revS (xs : List Point) : Nat → Int × Int
  | 0 => (0, 0)
  | k + 1 => if k = 0 then (0, 0) else
    let dx := (at_ xs k).X - (at_ xs (k - 1)).X
    let p := revS xs k
    if dx = 0 then p else (if p.2 ≠ 0 ∧ ¬ (0 < dx ↔ 0 < p.2) then p.1 + 1 else p.1, dx)

theorem revS_1 {xs : List Point} {i : Int} (h : 1 ≤ i) : (revS xs (i + 1).toNat).1 = if (at_ xs i.toNat).X - (at_ xs (i - 1).toNat).X ≠ 0 ∧ (revS xs i.toNat).2 ≠ 0 ∧ ¬ (0 < (at_ xs i.toNat).X - (at_ xs (i - 1).toNat).X ↔ 0 < (revS xs i.toNat).2) then (revS xs i.toNat).1 + 1 else (revS xs i.toNat).1 := by
  have e1 : (i + 1).toNat = i.toNat + 1 := by omega
  have e2 : (i - 1).toNat = i.toNat - 1 := by omega
  have e3 : ¬ i.toNat = 0 := by omega
  rw [e1, e2]; simp only [revS, if_neg e3]
  by_cases h : (at_ xs i.toNat).X - (at_ xs (i.toNat - 1)).X = 0 <;> simp [h]
theorem revS_2 {xs : List Point} {i : Int} (h : 1 ≤ i) : (revS xs (i + 1).toNat).2 = if (at_ xs i.toNat).X - (at_ xs (i - 1).toNat).X = 0 then (revS xs i.toNat).2 else (at_ xs i.toNat).X - (at_ xs (i - 1).toNat).X := by
  have e1 : (i + 1).toNat = i.toNat + 1 := by omega
  have e2 : (i - 1).toNat = i.toNat - 1 := by omega
  have e3 : ¬ i.toNat = 0 := by omega
  rw [e1, e2]; simp only [revS, if_neg e3]
  by_cases h : (at_ xs i.toNat).X - (at_ xs (i.toNat - 1)).X = 0 <;> simp [h]

/-- The direction of a difference that is not zero. -/
def dirI (dx dy : Int) : Int :=
  if ((dx.natAbs : Int) + (dy.natAbs : Int)) * ((dx.natAbs : Int) + (dy.natAbs : Int)) ≤ (2 * (dx.natAbs : Int)) * (dx.natAbs : Int) then (if 0 < dx then 0 else 4)
  else if ((dx.natAbs : Int) + (dy.natAbs : Int)) * ((dx.natAbs : Int) + (dy.natAbs : Int)) ≤ (2 * (dy.natAbs : Int)) * (dy.natAbs : Int) then (if 0 < dy then 2 else 6)
  else if 0 < dx ∧ 0 < dy then 1 else if dx < 0 ∧ 0 < dy then 3 else if dx < 0 then 5 else 7
theorem dirI_bd (dx dy : Int) : 0 ≤ dirI dx dy ∧ dirI dx dy ≤ 7 := by unfold dirI; (repeat' split) <;> omega
theorem two_sq {x : Int} (h : 0 ≤ x) (h2 : x ≤ 4095) : 0 ≤ (2 * x) * x ∧ (2 * x) * x ≤ 33538050 := by
  have := sq_bd (x := x) (B := 4095) (by omega) h2
  rw [Int.mul_assoc]; omega
theorem dir_zero {dx dy : Int} (h : dx = 0) : ((dx.natAbs : Int) + (dy.natAbs : Int)) * ((dx.natAbs : Int) + (dy.natAbs : Int)) ≤ (2 * (dy.natAbs : Int)) * (dy.natAbs : Int) := by
  subst h
  have := sq_bd (x := (dy.natAbs : Int)) (B := (dy.natAbs : Int)) (by omega) (by omega)
  rw [Int.mul_assoc]; simp at this ⊢; omega

/-- The directions of the segments that have a length and end ahead of the k-th point. -/
def dirsL (xs : List Point) : Nat → List Int
  | 0 => []
  | k + 1 => if k = 0 ∨ ((at_ xs k).X - (at_ xs (k - 1)).X = 0 ∧ (at_ xs k).Y - (at_ xs (k - 1)).Y = 0) then dirsL xs k
    else dirsL xs k ++ [dirI ((at_ xs k).X - (at_ xs (k - 1)).X) ((at_ xs k).Y - (at_ xs (k - 1)).Y)]
theorem dirsL_len (xs : List Point) : ∀ k : Nat, (dirsL xs k).length ≤ k
  | 0 => Nat.le_refl _
  | k + 1 => by
    have := dirsL_len xs k
    unfold dirsL
    split
    · omega
    · simp; omega
theorem dirsL_one (xs : List Point) : dirsL xs 1 = [] := by simp [dirsL]
theorem dirsL_same {xs : List Point} {i : Int} (h : 1 ≤ i) (hx : (at_ xs i.toNat).X - (at_ xs (i - 1).toNat).X = 0) (hy : (at_ xs i.toNat).Y - (at_ xs (i - 1).toNat).Y = 0) : dirsL xs (i + 1).toNat = dirsL xs i.toNat := by
  have e1 : (i + 1).toNat = i.toNat + 1 := by omega
  have e2 : (i - 1).toNat = i.toNat - 1 := by omega
  rw [e2] at hx hy
  rw [e1]
  conv => lhs; unfold dirsL
  rw [if_pos (.inr ⟨hx, hy⟩)]
theorem dirsL_more {xs : List Point} {i : Int} (h : 1 ≤ i) (hn : ¬ ((at_ xs i.toNat).X - (at_ xs (i - 1).toNat).X = 0 ∧ (at_ xs i.toNat).Y - (at_ xs (i - 1).toNat).Y = 0)) :
    dirsL xs (i + 1).toNat = dirsL xs i.toNat ++ [dirI ((at_ xs i.toNat).X - (at_ xs (i - 1).toNat).X) ((at_ xs i.toNat).Y - (at_ xs (i - 1).toNat).Y)] := by
  have e1 : (i + 1).toNat = i.toNat + 1 := by omega
  have e2 : (i - 1).toNat = i.toNat - 1 := by omega
  rw [e2] at hn ⊢
  rw [e1]
  conv => lhs; unfold dirsL
  rw [if_neg (by rintro (h' | h'); omega; exact hn h')]

/-- f 0 + .. + f (n - 1). -/
def sumN : Nat → (Nat → Int) → Int
  | 0, _ => 0
  | n + 1, f => sumN n f + f n
theorem sumN_succ {n : Int} (h : 0 ≤ n) (f : Nat → Int) : sumN (n + 1).toNat f = sumN n.toNat f + f n.toNat := by
  have : (n + 1).toNat = n.toNat + 1 := by omega
  rw [this]; rfl

def bendI (a b : Int) : Int := (b - a + 11) % 8 - 3
theorem bendI_bd (a b : Int) : -3 ≤ bendI a b ∧ bendI a b ≤ 4 := by unfold bendI; omega
def bendS (l : List Int) (k : Nat) : Int := sumN k fun j => if j = 0 then 0 else bendI (at_ l (j - 1)) (at_ l j)
theorem bendS_succ {l : List Int} {i : Int} (h : 1 ≤ i) : bendS l (i + 1).toNat = bendS l i.toNat + bendI (at_ l (i - 1).toNat) (at_ l i.toNat) := by
  unfold bendS
  rw [sumN_succ (by omega), if_neg (by omega)]
  have e2 : (i - 1).toNat = i.toNat - 1 := by omega
  rw [e2]
theorem bendS_one (l : List Int) (k : Nat) (h : k ≤ 1) : bendS l k = 0 := by
  have : k = 0 ∨ k = 1 := by omega
  rcases this with rfl | rfl <;> simp [bendS, sumN]
theorem bendS_bd (l : List Int) (k : Nat) : -3 * (k : Int) ≤ bendS l k ∧ bendS l k ≤ 4 * (k : Int) := by
  induction k with
  | zero => simp [bendS, sumN]
  | succ k ih =>
    have := bendI_bd (at_ l (k - 1)) (at_ l k)
    unfold bendS at ih ⊢
    simp only [sumN]
    split <;> omega
theorem dirsL_bd (xs : List Point) : ∀ (k j : Nat), j < (dirsL xs k).length → 0 ≤ at_ (dirsL xs k) j ∧ at_ (dirsL xs k) j ≤ 7 := by
  intro k
  induction k with
  | zero => intro j h; simp [dirsL] at h
  | succ k ih =>
    unfold dirsL
    split
    · exact ih
    · intro j h
      simp only [List.length_append, List.length_singleton] at h
      by_cases e : j < (dirsL xs k).length
      · have := ih j e
        simp only [at_, List.getD_eq_getElem?_getD, List.getElem?_append_left e] at this ⊢
        exact this
      · have e2 : j = (dirsL xs k).length := by omega
        subst e2
        simp [at_]
        exact dirI_bd _ _
/-- The sum of a stroke's turns. -/
def bendT (s : Stroke) : Int := bendS (dirsL s.Points s.Points.length) (dirsL s.Points s.Points.length).length
theorem bendT_bd {s : Stroke} (ok : okStroke' s = true) : -180 ≤ bendT s ∧ bendT s ≤ 240 := by
  have h := okS_len ok
  have h1 := dirsL_len s.Points s.Points.length
  have h2 := bendS_bd (dirsL s.Points s.Points.length) (dirsL s.Points s.Points.length).length
  unfold bendT; omega

/-- The lengths up to the first k points. -/
def arcsL (xs : List Point) (k : Nat) : List Int := (List.range k).map fun j => sumS xs (j + 1)
theorem arcsL_len (xs : List Point) (k : Nat) : (arcsL xs k).length = k := by simp [arcsL]
theorem arcsL_at {xs : List Point} {k j : Nat} (h : j < k) : at_ (arcsL xs k) j = sumS xs (j + 1) := by simp [at_, arcsL, h]
theorem arcsL_succ (xs : List Point) (k : Nat) : arcsL xs (k + 1) = arcsL xs k ++ [sumS xs (k + 1)] := by simp [arcsL, List.range_succ]
theorem sumS_bd {s : Stroke} (ok : okStroke' s = true) : ∀ k : Nat, k ≤ s.Points.length → 0 ≤ sumS s.Points k ∧ sumS s.Points k ≤ 92659 * k
  | 0, _ => by simp [sumS]
  | k + 1, h => by
    have ih := sumS_bd ok k (by omega)
    unfold sumS
    split
    · omega
    · have := segI_bd (okS_at ok (j := k - 1) (by omega)) (okS_at ok (j := k) (by omega))
      omega

def caretB (s : Stroke) : Bool :=
  let b := boxS s.Points s.Points.length
  decide (0 < b.Y2 - b.Y1) && (decide (b.Y2 - b.Y1 ≤ 2 * ((at_ s.Points 0).Y - b.Y1)) && (decide (b.Y2 - b.Y1 ≤ 2 * ((at_ s.Points (s.Points.length - 1)).Y - b.Y1)) && decide ((revS s.Points s.Points.length).1 = 0)))
/-- The segment from a stroke's first point to its last one. -/
def endsI (s : Stroke) : Int := segI (at_ s.Points 0) (at_ s.Points (s.Points.length - 1))
def strI (s : Stroke) : Int := if sumS s.Points s.Points.length = 0 then 1000 else min 1000 (1000 * endsI s / sumS s.Points s.Points.length)
/-- The gesture of a stroke. -/
def gestI (s : Stroke) : Int :=
  if sumS s.Points s.Points.length ≤ 160 then 1 else if 3 ≤ (revS s.Points s.Points.length).1 then 2
  else if 6 ≤ ((bendT s).natAbs : Int) ∧ 4 * endsI s ≤ sumS s.Points s.Points.length then 3 else if caretB s = true then 4 else if 900 ≤ strI s then 5 else 0
def gestR (s : Stroke) : Int × Int := if okStroke' s then (gestI s, 0) else (0, 1)
theorem ends_bd {s : Stroke} (ok : okStroke' s = true) : 0 ≤ endsI s ∧ endsI s ≤ 92659 := by
  have := okS_len ok
  exact (segI_bd (okS_at ok (by omega)) (okS_at ok (by omega))).2

def mvP (dx dy : Int) (p : Point) : Point := ⟨p.X + dx, p.Y + dy, p.T⟩
def mvS (dx dy : Int) (s : Stroke) : Stroke := ⟨s.Points.map (mvP dx dy)⟩
/-- Ink at another place. -/
def mvI (dx dy : Int) (x : Ink) : Ink := ⟨x.Strokes.map (mvS dx dy)⟩
theorem mvI_len (dx dy : Int) (x : Ink) : (mvI dx dy x).Strokes.length = x.Strokes.length := by simp [mvI]
theorem mvS_len (dx dy : Int) (s : Stroke) : (mvS dx dy s).Points.length = s.Points.length := by simp [mvS]
theorem mvS_at {dx dy : Int} {s : Stroke} {j : Nat} (h : j < s.Points.length) : at_ (mvS dx dy s).Points j = mvP dx dy (at_ s.Points j) := by simp [at_, mvS, h]
theorem mvI_at {dx dy : Int} {x : Ink} {j : Nat} (h : j < x.Strokes.length) : at_ (mvI dx dy x).Strokes j = mvS dx dy (at_ x.Strokes j) := by simp [at_, mvI, h]
/-- The first k points are moved. -/
def mvTo (dx dy : Int) (k : Nat) (s : Stroke) : Stroke := ⟨(s.Points.take k).map (mvP dx dy) ++ s.Points.drop k⟩
/-- The first i strokes are moved. -/
def mvFst (dx dy : Int) (i : Nat) (xs : List Stroke) : List Stroke := (xs.take i).map (mvS dx dy) ++ xs.drop i
theorem mvTo_zero (dx dy : Int) (s : Stroke) : mvTo dx dy 0 s = s := by simp [mvTo]
theorem mvTo_all {dx dy : Int} {k : Nat} {s : Stroke} (h : s.Points.length ≤ k) : mvTo dx dy k s = mvS dx dy s := by simp [mvTo, mvS, List.take_of_length_le h, List.drop_eq_nil_of_le h]
theorem mvTo_len (dx dy : Int) (k : Nat) (s : Stroke) : (mvTo dx dy k s).Points.length = s.Points.length := by simp [mvTo]; omega
theorem mvTo_at {dx dy : Int} {k : Nat} {s : Stroke} (h : k < s.Points.length) : at_ (mvTo dx dy k s).Points k = at_ s.Points k := by
  simp [at_, mvTo, h, Nat.le_of_lt h, List.getElem?_append]
theorem mvTo_succ {dx dy : Int} {k : Nat} {s : Stroke} (h : k < s.Points.length) : mvTo dx dy (k + 1) s = ⟨(mvTo dx dy k s).Points.set k (mvP dx dy (at_ s.Points k))⟩ := by
  unfold mvTo
  simp only [Stroke.mk.injEq]
  rw [List.take_succ_eq_append_getElem h, List.set_append_right _ _ (by simp [Nat.le_of_lt h]), List.drop_eq_getElem_cons h, at_eq h]
  simp only [List.map_append, List.map_cons, List.map_nil, List.length_map, List.length_take, Nat.min_eq_left (Nat.le_of_lt h), Nat.sub_self, List.set_cons_zero, List.append_assoc, List.cons_append, List.nil_append]
theorem mvFst_zero (dx dy : Int) (xs : List Stroke) : mvFst dx dy 0 xs = xs := by simp [mvFst]
theorem mvFst_len (dx dy : Int) (i : Nat) (xs : List Stroke) : (mvFst dx dy i xs).length = xs.length := by simp [mvFst]; omega
theorem mvFst_all {dx dy : Int} {i : Nat} {xs : List Stroke} (h : xs.length ≤ i) : mvFst dx dy i xs = xs.map (mvS dx dy) := by simp [mvFst, List.take_of_length_le h, List.drop_eq_nil_of_le h]
theorem mvFst_at {dx dy : Int} {i : Nat} {xs : List Stroke} (h : i < xs.length) : at_ (mvFst dx dy i xs) i = at_ xs i := by
  simp [at_, mvFst, h, Nat.le_of_lt h, List.getElem?_append]
theorem mvFst_succ {dx dy : Int} {i : Nat} {xs : List Stroke} (h : i < xs.length) : mvFst dx dy (i + 1) xs = (mvFst dx dy i xs).set i (mvS dx dy (at_ xs i)) := by
  unfold mvFst
  rw [List.take_succ_eq_append_getElem h, List.set_append_right _ _ (by simp [Nat.le_of_lt h]), List.drop_eq_getElem_cons h, at_eq h]
  simp only [List.map_append, List.map_cons, List.map_nil, List.length_map, List.length_take, Nat.min_eq_left (Nat.le_of_lt h), Nat.sub_self, List.set_cons_zero, List.append_assoc, List.cons_append, List.nil_append]
/-- The stroke at i, of which the first k points are moved. -/
def mvIn (dx dy : Int) (i k : Nat) (xs : List Stroke) : List Stroke := (mvFst dx dy i xs).set i (mvTo dx dy k (at_ xs i))
theorem mvIn_zero {dx dy : Int} {i : Nat} {xs : List Stroke} (h : i < xs.length) : mvIn dx dy i 0 xs = mvFst dx dy i xs := by
  have hl : i < (mvFst dx dy i xs).length := by rw [mvFst_len]; exact h
  rw [mvIn, mvTo_zero]
  have := mvFst_at (dx := dx) (dy := dy) h
  conv => lhs; rw [← this]
  simp [at_, hl]
theorem mvIn_len (dx dy : Int) (i k : Nat) (xs : List Stroke) : (mvIn dx dy i k xs).length = xs.length := by simp [mvIn, mvFst_len]
theorem mvIn_at {dx dy : Int} {i k : Nat} {xs : List Stroke} (h : i < xs.length) : at_ (mvIn dx dy i k xs) i = mvTo dx dy k (at_ xs i) := by
  have hl : i < (mvFst dx dy i xs).length := by rw [mvFst_len]; exact h
  simp [mvIn, at_, hl]
theorem mvIn_succ {dx dy : Int} {i k : Nat} {xs : List Stroke} (h : i < xs.length) (hk : k < (at_ xs i).Points.length) : mvIn dx dy i (k + 1) xs = (mvIn dx dy i k xs).set i ⟨(at_ (mvIn dx dy i k xs) i).Points.set k (mvP dx dy (at_ (at_ xs i).Points k))⟩ := by
  rw [mvIn_at h, mvIn, mvTo_succ hk, mvIn, List.set_set]
theorem mvIn_all {dx dy : Int} {i k : Nat} {xs : List Stroke} (h : i < xs.length) (hk : (at_ xs i).Points.length ≤ k) : mvIn dx dy i k xs = mvFst dx dy (i + 1) xs := by
  rw [mvIn, mvTo_all hk, mvFst_succ h]
section
variable {dx dy : Int} {s : Stroke}
theorem far_mv (a b : Point) : farI (mvP dx dy a) (mvP dx dy b) = farI a b := by
  have e1 : a.X + dx - (b.X + dx) = a.X - b.X := by omega
  have e2 : a.Y + dy - (b.Y + dy) = a.Y - b.Y := by omega
  simp only [farI, mvP, e1, e2]
theorem seg_mv (a b : Point) : segI (mvP dx dy a) (mvP dx dy b) = segI a b := by rw [segI, far_mv]; rfl
theorem sum_mv : ∀ k, k ≤ s.Points.length → sumS (mvS dx dy s).Points k = sumS s.Points k
  | 0, _ => rfl
  | k + 1, h => by
    rw [sumS, sumS, sum_mv k (by omega)]
    split
    · rfl
    · rw [mvS_at (by omega), mvS_at (by omega), seg_mv]
theorem rev_mv : ∀ k, k ≤ s.Points.length → revS (mvS dx dy s).Points k = revS s.Points k
  | 0, _ => rfl
  | k + 1, h => by
    rw [revS, revS, rev_mv k (by omega)]
    split
    · rfl
    · rw [mvS_at (by omega), mvS_at (by omega)]
      have e1 : (at_ s.Points k).X + dx - ((at_ s.Points (k - 1)).X + dx) = (at_ s.Points k).X - (at_ s.Points (k - 1)).X := by omega
      simp only [mvP, e1]
theorem dirs_mv : ∀ k, k ≤ s.Points.length → dirsL (mvS dx dy s).Points k = dirsL s.Points k
  | 0, _ => rfl
  | k + 1, h => by
    rw [dirsL, dirsL, dirs_mv k (by omega)]
    by_cases hk : k = 0
    · subst hk; simp
    · rw [mvS_at (by omega), mvS_at (by omega)]
      have e1 : (at_ s.Points k).X + dx - ((at_ s.Points (k - 1)).X + dx) = (at_ s.Points k).X - (at_ s.Points (k - 1)).X := by omega
      have e2 : (at_ s.Points k).Y + dy - ((at_ s.Points (k - 1)).Y + dy) = (at_ s.Points k).Y - (at_ s.Points (k - 1)).Y := by omega
      simp only [mvP, e1, e2]
def mvB (dx dy : Int) (b : Box) : Box := ⟨b.X1 + dx, b.Y1 + dy, b.X2 + dx, b.Y2 + dy⟩
theorem box_mv (h1 : 1 ≤ s.Points.length) : ∀ k, k ≤ s.Points.length → boxS (mvS dx dy s).Points k = mvB dx dy (boxS s.Points k)
  | 0, _ => by rw [boxS, boxS, mvS_at (by omega)]; rfl
  | k + 1, h => by
    rw [boxS, boxS, box_mv h1 k (by omega), mvS_at (by omega)]
    simp only [joinB, mvB, ptB, mvP, Box.mk.injEq]
    omega
theorem caret_mv (h1 : 1 ≤ s.Points.length) : caretB (mvS dx dy s) = caretB s := by
  unfold caretB
  simp only [mvS_len]
  rw [box_mv h1 _ (Nat.le_refl _), rev_mv _ (Nat.le_refl _), mvS_at (by omega), mvS_at (by omega)]
  generalize boxS s.Points s.Points.length = b
  generalize at_ s.Points 0 = p
  generalize at_ s.Points (s.Points.length - 1) = q
  have e1 : (mvB dx dy b).Y2 - (mvB dx dy b).Y1 = b.Y2 - b.Y1 := by simp only [mvB]; omega
  have e2 : (mvP dx dy p).Y - (mvB dx dy b).Y1 = p.Y - b.Y1 := by simp only [mvB, mvP]; omega
  have e3 : (mvP dx dy q).Y - (mvB dx dy b).Y1 = q.Y - b.Y1 := by simp only [mvB, mvP]; omega
  rw [e1, e2, e3]
theorem ends_mv (h1 : 1 ≤ s.Points.length) : endsI (mvS dx dy s) = endsI s := by
  unfold endsI
  rw [mvS_len, mvS_at (by omega), mvS_at (by omega), seg_mv]
theorem bendT_mv : bendT (mvS dx dy s) = bendT s := by
  unfold bendT
  rw [mvS_len, dirs_mv _ (Nat.le_refl _)]
/-- A gesture does not depend on where it is made. -/
theorem gest_mv (h1 : 1 ≤ s.Points.length) : gestI (mvS dx dy s) = gestI s := by
  unfold gestI strI
  rw [mvS_len, sum_mv _ (Nat.le_refl _), rev_mv _ (Nat.le_refl _), bendT_mv, ends_mv h1, caret_mv h1]
end

def sameL {α : Type} [Inhabited α] [DecidableEq α] (a b : List α) : Bool := decide (a.length = b.length) && allN a.length (fun j => decide (at_ a j = at_ b j))
theorem sameL_refl {α : Type} [Inhabited α] [DecidableEq α] (a : List α) : sameL a a = true := by simp [sameL, allN_iff]

/-- A point without a slant. -/
def strP (slant base : Int) (p : Point) : Point := ⟨p.X - nearI (slant * (base - p.Y)) 256, p.Y, p.T⟩
theorem mulA_bd {x y A B : Int} (h0 : -A ≤ x) (h1 : x ≤ A) (h2 : -B ≤ y) (h3 : y ≤ B) : -(A * B) ≤ x * y ∧ x * y ≤ A * B := by
  rcases Int.le_total 0 y with h | h
  · exact mulS_bd h0 h1 h h3
  · have := mulS_bd h0 h1 (by omega : 0 ≤ -y) (by omega : -y ≤ B)
    rw [Int.mul_neg] at this; omega
theorem near_abs (n : Int) {d : Int} (hd : 0 < d) : -(((2 * n + d).natAbs : Nat) : Int) ≤ nearI n d ∧ nearI n d ≤ (((2 * n + d).natAbs : Nat) : Int) := ediv_bd _ (by omega)
/-- What an ink becomes without a slant, and a code. -/
def strgR (x : Ink) (slant base : Int) : Ink × Int :=
  if okInk' x = true then (if inB slant (-256) 256 = true ∧ inB base 0 4095 = true then (if okInk' (mpI (strP slant base) x) = true then (mpI (strP slant base) x, 0) else (⟨[]⟩, 6)) else (⟨[]⟩, 2)) else (⟨[]⟩, 1)
theorem strg_inv {x : Ink} {a b : Int} (h : okInk' x = false) : strgR x a b = (⟨[]⟩, 1) := by simp [strgR, h]
theorem strg_rng {x : Ink} {a b : Int} (h : okInk' x = true) (h2 : ¬ (inB a (-256) 256 = true ∧ inB b 0 4095 = true)) : strgR x a b = (⟨[]⟩, 2) := by rw [strgR, if_pos h, if_neg h2]
theorem strg_st {x : Ink} {a b : Int} (h : okInk' x = true) (h2 : inB a (-256) 256 = true ∧ inB b 0 4095 = true) (h3 : okInk' (mpI (strP a b) x) = false) : strgR x a b = (⟨[]⟩, 6) := by rw [strgR, if_pos h, if_pos h2, if_neg (by simp [h3])]
theorem strg_yes {x : Ink} {a b : Int} (h : okInk' x = true) (h2 : inB a (-256) 256 = true ∧ inB b 0 4095 = true) (h3 : okInk' (mpI (strP a b) x) = true) : strgR x a b = (mpI (strP a b) x, 0) := by rw [strgR, if_pos h, if_pos h2, if_pos h3]
theorem strP_zero (p : Point) : strP 0 0 p = p := by
  have e : nearI (0 * (0 - p.Y)) 256 = 0 := by rw [Int.zero_mul]; decide
  unfold strP; rw [e]; simp
theorem strg_zero {x : Ink} (h : okInk' x = true) : strgR x 0 0 = (x, 0) := by
  have e := mpI_id (x := x) strP_zero
  have := strg_yes h (a := 0) (b := 0) ⟨by decide, by decide⟩ (by rw [e]; exact h)
  rw [this, e]
/-- What a segment gives to the slant. -/
def slaA (a b : Point) : Int := if ((b.X - a.X).natAbs : Int) < ((b.Y - a.Y).natAbs : Int) then (b.X - a.X) * (b.Y - a.Y) else 0
def slaD (a b : Point) : Int := if ((b.X - a.X).natAbs : Int) < ((b.Y - a.Y).natAbs : Int) then (b.Y - a.Y) * (b.Y - a.Y) else 0
def slaS (xs : List Point) : Nat → Int × Int
  | 0 => (0, 0)
  | k + 1 => if k = 0 then (0, 0) else ((slaS xs k).1 - slaA (at_ xs (k - 1)) (at_ xs k), (slaS xs k).2 + slaD (at_ xs (k - 1)) (at_ xs k))
def slaI (xs : List Stroke) : Nat → Int × Int
  | 0 => (0, 0)
  | k + 1 => ((slaI xs k).1 + (slaS (at_ xs k).Points (at_ xs k).Points.length).1, (slaI xs k).2 + (slaS (at_ xs k).Points (at_ xs k).Points.length).2)
def slantR (x : Ink) : Int × Int := if okInk' x = true then (if (slaI x.Strokes x.Strokes.length).2 = 0 then (0, 6) else (nearI (256 * (slaI x.Strokes x.Strokes.length).1) (slaI x.Strokes x.Strokes.length).2, 0)) else (0, 1)
theorem slaS_one (xs : List Point) (k : Nat) (h : k ≤ 1) : slaS xs k = (0, 0) := by
  have : k = 0 ∨ k = 1 := by omega
  rcases this with rfl | rfl <;> simp [slaS]
theorem slaS_1 {xs : List Point} {i : Int} (h : 1 ≤ i) : (slaS xs (i + 1).toNat).1 = (slaS xs i.toNat).1 - slaA (at_ xs (i - 1).toNat) (at_ xs i.toNat) := by
  have e1 : (i + 1).toNat = i.toNat + 1 := by omega
  have e2 : (i - 1).toNat = i.toNat - 1 := by omega
  rw [e1, e2, slaS, if_neg (by omega)]
theorem slaS_2 {xs : List Point} {i : Int} (h : 1 ≤ i) : (slaS xs (i + 1).toNat).2 = (slaS xs i.toNat).2 + slaD (at_ xs (i - 1).toNat) (at_ xs i.toNat) := by
  have e1 : (i + 1).toNat = i.toNat + 1 := by omega
  have e2 : (i - 1).toNat = i.toNat - 1 := by omega
  rw [e1, e2, slaS, if_neg (by omega)]
theorem slaI_1 {xs : List Stroke} {i : Int} (h : 0 ≤ i) : (slaI xs (i + 1).toNat).1 = (slaI xs i.toNat).1 + (slaS (at_ xs i.toNat).Points (at_ xs i.toNat).Points.length).1 := by
  have e1 : (i + 1).toNat = i.toNat + 1 := by omega
  rw [e1]; rfl
theorem slaI_2 {xs : List Stroke} {i : Int} (h : 0 ≤ i) : (slaI xs (i + 1).toNat).2 = (slaI xs i.toNat).2 + (slaS (at_ xs i.toNat).Points (at_ xs i.toNat).Points.length).2 := by
  have e1 : (i + 1).toNat = i.toNat + 1 := by omega
  rw [e1]; rfl
theorem sla_seg {a b : Point} (ha : okP a = true) (hb : okP b = true) : (-(slaD a b) ≤ slaA a b ∧ slaA a b ≤ slaD a b) ∧ 0 ≤ slaD a b ∧ slaD a b ≤ 16769025 := by
  have h1 := okP_iff.1 ha
  have h2 := okP_iff.1 hb
  unfold slaA slaD
  split
  · rename_i h
    have h3 := sq_bd (x := b.Y - a.Y) (B := 4095) (by omega) (by omega)
    refine ⟨?_, h3.1, by omega⟩
    have e : (b.Y - a.Y) * (b.Y - a.Y) = ((b.Y - a.Y).natAbs : Int) * ((b.Y - a.Y).natAbs : Int) := by rw [← Int.natCast_mul, Int.natAbs_mul_self]
    rw [e]
    exact mulA_bd (by omega) (by omega) (by omega) (by omega)
  · omega
theorem sla_bd {s : Stroke} (ok : okStroke' s = true) : ∀ k, k ≤ s.Points.length → (-(slaS s.Points k).2 ≤ (slaS s.Points k).1 ∧ (slaS s.Points k).1 ≤ (slaS s.Points k).2) ∧ 0 ≤ (slaS s.Points k).2 ∧ (slaS s.Points k).2 ≤ 16769025 * (k : Int)
  | 0, _ => by simp [slaS]
  | k + 1, h => by
    have ih := sla_bd ok k (by omega)
    rw [slaS]
    split
    · simp only; omega
    · have := sla_seg (okS_at ok (j := k - 1) (by omega)) (okS_at ok (j := k) (by omega))
      simp only; omega
theorem slaI_bd {x : Ink} (ok : okInk' x = true) : ∀ k, k ≤ x.Strokes.length → (-(slaI x.Strokes k).2 ≤ (slaI x.Strokes k).1 ∧ (slaI x.Strokes k).1 ≤ (slaI x.Strokes k).2) ∧ 0 ≤ (slaI x.Strokes k).2 ∧ (slaI x.Strokes k).2 ≤ 1006141500 * (k : Int)
  | 0, _ => by simp [slaI]
  | k + 1, h => by
    have ih := slaI_bd ok k (by omega)
    have ho := okI_all ok k (by omega)
    have h1 := sla_bd ho _ (Nat.le_refl _)
    have h2 := okS_len ho
    simp only [slaI]
    omega
theorem near_in {n d : Int} (hd : 0 < d) (h1 : -d ≤ n) (h2 : n ≤ d) : -256 ≤ nearI (256 * n) d ∧ nearI (256 * n) d ≤ 256 := by
  unfold nearI
  constructor
  · exact Int.le_ediv_of_mul_le (by omega) (by omega)
  · have b : (2 * (256 * n) + d) / (2 * d) < 257 := Int.ediv_lt_of_lt_mul (by omega) (by omega)
    omega
theorem slant_in {x : Ink} (h : (slantR x).2 = 0) : -256 ≤ (slantR x).1 ∧ (slantR x).1 ≤ 256 := by
  unfold slantR at h ⊢
  split at h
  · rename_i ok
    rw [if_pos ok]
    split at h
    · cases h
    · rename_i hd
      rw [if_neg hd]
      have := slaI_bd ok _ (Nat.le_refl _)
      exact near_in (by omega) this.1.1 this.1.2
  · cases h
theorem slaS_mv {dx dy : Int} {s : Stroke} : ∀ k, k ≤ s.Points.length → slaS (mvS dx dy s).Points k = slaS s.Points k
  | 0, _ => rfl
  | k + 1, h => by
    rw [slaS, slaS, slaS_mv k (by omega)]
    by_cases hk : k = 0
    · subst hk; rfl
    · rw [if_neg hk, if_neg hk, mvS_at (by omega), mvS_at (by omega)]
      have e1 : (at_ s.Points k).X + dx - ((at_ s.Points (k - 1)).X + dx) = (at_ s.Points k).X - (at_ s.Points (k - 1)).X := by omega
      have e2 : (at_ s.Points k).Y + dy - ((at_ s.Points (k - 1)).Y + dy) = (at_ s.Points k).Y - (at_ s.Points (k - 1)).Y := by omega
      simp only [slaA, slaD, mvP, e1, e2]
theorem slaI_mv {dx dy : Int} {x : Ink} : ∀ k, k ≤ x.Strokes.length → slaI (mvI dx dy x).Strokes k = slaI x.Strokes k
  | 0, _ => rfl
  | k + 1, h => by
    rw [slaI, slaI, slaI_mv k (by omega), mvI_at (by omega), mvS_len, slaS_mv _ (Nat.le_refl _)]
theorem slant_mv {dx dy : Int} {x : Ink} (h1 : okInk' x = true) (h2 : okInk' (mvI dx dy x) = true) : slantR (mvI dx dy x) = slantR x := by
  unfold slantR
  rw [if_pos h1, if_pos h2, mvI_len, slaI_mv _ (Nat.le_refl _)]
def sameS (a b : Stroke) : Bool := sameL a.Points b.Points
def sameI (a b : Ink) : Bool := decide (a.Strokes.length = b.Strokes.length) && allN a.Strokes.length (fun j => sameS (at_ a.Strokes j) (at_ b.Strokes j))
theorem sameI_refl (a : Ink) : sameI a a = true := by simp [sameI, sameS, sameL_refl, allN_iff]
theorem sameI_of {a b : Ink} (h : a = b) : sameI a b = true := by rw [h]; exact sameI_refl b
theorem pt_ext {a b : Point} (h1 : a.X = b.X) (h2 : a.Y = b.Y) (h3 : a.T = b.T) : a = b := by
  cases a; cases b; simp_all

-- spec.l02SameStroke
theorem l02SameStroke_ok (a : Stroke) (b : Stroke) : Con Try.prog 45 [.ptr false [slPoint false a.Points], .ptr false [slPoint false b.Points]] true (Bv (sameS a b)) := by
  refine fn_ok (fn := Try.f45) (nt := 41) Try.func45 rfl rfl rfl rfl (by simp [taggedL, tagged, tagPoint]) fun B hB => ?_
  refine aw_lens (x := .ptr false [slPoint false a.Points]) 0 rfl (fun len_a => ?_)
  simp [LenOK, LenL, cPoint, fPoint, slPoint] at len_a
  refine aw_lens (x := .ptr false [slPoint false b.Points]) 1 rfl (fun len_b => ?_)
  simp [LenOK, LenL, cPoint, fPoint, slPoint] at len_b
  refine aw_seq ?_
  refine aw_reg [] [0, 1] [] [.ptr false [slPoint false a.Points], .ptr false [slPoint false b.Points]] [] [] (by kernel_rfl) hB trivial ?_
  refine ae_then ?_
  refine aw_seq ?_
  refine aw_seq ?_
  by_cases h1 : (a.Points.length : Int) = (b.Points.length : Int)
  ·have hlen : a.Points.length = b.Points.length := by omega
   refine aw_reg [(10, .dec false)] [0, 1, 16] [] [.ptr false [slPoint false a.Points], .ptr false [slPoint false b.Points], Bv false] [] [¬ ((a.Points.length : Int) ≠ (b.Points.length : Int))] (by kernel_rfl) hB ⟨(fun hq => hq h1), trivial⟩ ?_
   refine ae_then ?_
   refine aw_false rfl ?_
   refine aw_skip ?_
   refine ae_then ?_
   refine aw_seq ?_
   refine aw_seq ?_
   refine aw_reg [] [0, 1, 5] [] [.ptr false [slPoint false a.Points], .ptr false [slPoint false b.Points], I 0] [] [] (by kernel_rfl) hB trivial ?_
   refine ae_then ?_
   refine aw_block ?_
   refine aw_loop (fun gn gσ => ∃ (i : Int), gn = ((a.Points.length : Int) - i).toNat ∧ (0 ≤ i ∧ i ≤ (a.Points.length : Int)) ∧ (∀ j : Nat, (j : Int) < i → decide (at_ a.Points j = at_ b.Points j) = true) ∧ gσ = mkS [(0, .ptr false [slPoint false a.Points]), (1, .ptr false [slPoint false b.Points]), (5, I i)] []) (((a.Points.length : Int) - 0).toNat) ⟨0, rfl, (by omega), (by intro j hj; omega), rfl⟩ (fun gn gσ hI => ?_)
   obtain ⟨i, rfl, hi0, hall0, rfl⟩ := hI
   refine aw_seq ?_
   refine aw_seq ?_
   by_cases h2 : i < (a.Points.length : Int)
   ·have hi : i.toNat < a.Points.length := by omega
    refine aw_reg [(6, .dec true)] [0, 1, 5, 23] [] [.ptr false [slPoint false a.Points], .ptr false [slPoint false b.Points], I i, Bv true] [] [i < (a.Points.length : Int)] (by kernel_rfl) hB ⟨h2, trivial⟩ ?_
    refine ae_then ?_
    refine aw_true rfl ?_
    refine aw_skip ?_
    refine ae_then ?_
    refine aw_seq ?_
    refine aw_block ?_
    refine aw_seq ?_
    by_cases h3 : ((at_ a.Points i.toNat).X) = ((at_ b.Points i.toNat).X) ∧ ((at_ a.Points i.toNat).Y) = ((at_ b.Points i.toNat).Y) ∧ ((at_ a.Points i.toNat).T) = ((at_ b.Points i.toNat).T) ∧ True
    ·have hok : decide (at_ a.Points i.toNat = at_ b.Points i.toNat) = true := decide_eq_true (pt_ext h3.1 h3.2.1 h3.2.2.1)
     refine aw_reg [(14, .dec false)] [0, 1, 5, 40] [] [.ptr false [slPoint false a.Points], .ptr false [slPoint false b.Points], I i, Bv false] [] [(0 : Int) ≤ i ∧ i < (a.Points.length : Int), (0 : Int) ≤ i ∧ i < (b.Points.length : Int), ¬ (¬ (((at_ a.Points i.toNat).X) = ((at_ b.Points i.toNat).X) ∧ ((at_ a.Points i.toNat).Y) = ((at_ b.Points i.toNat).Y) ∧ ((at_ a.Points i.toNat).T) = ((at_ b.Points i.toNat).T) ∧ True))] (by kernel_rfl) hB ⟨⟨(by omega), (by omega)⟩, ⟨(by omega), (by omega)⟩, (fun hq => hq h3), trivial⟩ ?_
     refine ae_then ?_
     refine aw_false rfl ?_
     refine aw_skip ?_
     refine ae_block 1 ?_
     refine ae_then ?_
     refine aw_reg [] [0, 1, 5] [] [.ptr false [slPoint false a.Points], .ptr false [slPoint false b.Points], I (i + 1)] [] [inR .i64 (i + 1)] (by kernel_rfl) hB ⟨(inR_i64 (by omega) (by omega)), trivial⟩ ?_
     exact ae_again _ (by omega) ⟨(i + 1), rfl, (by omega), (by intro j hj; by_cases ej : j = i.toNat; (subst ej; first | assumption | exact hok); exact hall0 j (by omega)), rfl⟩
    ·have hall : allN a.Points.length (fun j => decide (at_ a.Points j = at_ b.Points j)) = false := allN_not hi (decide_eq_false (fun e => h3 ⟨by rw [e], by rw [e], by rw [e], trivial⟩))
     refine aw_reg [(14, .dec true)] [0, 1, 5, 40] [] [.ptr false [slPoint false a.Points], .ptr false [slPoint false b.Points], I i, Bv true] [] [(0 : Int) ≤ i ∧ i < (a.Points.length : Int), (0 : Int) ≤ i ∧ i < (b.Points.length : Int), ¬ (((at_ a.Points i.toNat).X) = ((at_ b.Points i.toNat).X) ∧ ((at_ a.Points i.toNat).Y) = ((at_ b.Points i.toNat).Y) ∧ ((at_ a.Points i.toNat).T) = ((at_ b.Points i.toNat).T) ∧ True)] (by kernel_rfl) hB ⟨⟨(by omega), (by omega)⟩, ⟨(by omega), (by omega)⟩, h3, trivial⟩ ?_
     refine ae_then ?_
     refine aw_true rfl ?_
     refine aw_seq ?_
     refine aw_reg [] [4] [] [Bv false] [] [] (by kernel_rfl) hB trivial ?_
     refine ae_then ?_
     refine aw_ret ?_
     refine ae_ret_block (ae_ret_then (ae_ret_then (ae_ret_block (ae_ret_then ?_))))
     refine ae_ret hB (Bv false) (by kernel_rfl) (.inl (by first | (simp [sameS, sameL, hlen]; done) | (unfold sameS sameL; rw [hall]; simp [hlen]))) rfl (fun _ => trivial)
   ·have hall : allN a.Points.length (fun j => decide (at_ a.Points j = at_ b.Points j)) = true := allN_at (fun j hj => hall0 j (by omega))
    refine aw_reg [(6, .dec false)] [0, 1, 5, 23] [] [.ptr false [slPoint false a.Points], .ptr false [slPoint false b.Points], I i, Bv false] [] [¬ (i < (a.Points.length : Int))] (by kernel_rfl) hB ⟨h2, trivial⟩ ?_
    refine ae_then ?_
    refine aw_false rfl ?_
    refine aw_exit ?_
    refine ae_exit_then ?_
    refine ae_exit_then ?_
    refine ae_exit_same ?_
    refine ae_then ?_
    refine aw_seq ?_
    refine aw_reg [] [4] [] [Bv true] [] [] (by kernel_rfl) hB trivial ?_
    refine ae_then ?_
    refine aw_ret ?_
    refine ae_ret hB (Bv true) (by kernel_rfl) (.inl (by first | (simp [sameS, sameL, hlen]; done) | (unfold sameS sameL; rw [hall]; simp [hlen]))) rfl (fun _ => trivial)
  ·have hlen : ¬ a.Points.length = b.Points.length := by omega
   refine aw_reg [(10, .dec true)] [0, 1, 16] [] [.ptr false [slPoint false a.Points], .ptr false [slPoint false b.Points], Bv true] [] [(a.Points.length : Int) ≠ (b.Points.length : Int)] (by kernel_rfl) hB ⟨h1, trivial⟩ ?_
   refine ae_then ?_
   refine aw_true rfl ?_
   refine aw_seq ?_
   refine aw_reg [] [4] [] [Bv false] [] [] (by kernel_rfl) hB trivial ?_
   refine ae_then ?_
   refine aw_ret ?_
   refine ae_ret_then ?_
   refine ae_ret hB (Bv false) (by kernel_rfl) (.inl (by first | (simp [sameS, sameL, hlen]; done) | (unfold sameS sameL; rw [hall]; simp [hlen]))) rfl (fun _ => trivial)


-- spec.l02Same
theorem l02Same_ok (a : Ink) (b : Ink) : Con Try.prog 28 [.ptr false [slStroke false a.Strokes], .ptr false [slStroke false b.Strokes]] true (Bv (sameI a b)) := by
  refine fn_ok (fn := Try.f28) (nt := 40) Try.func28 rfl rfl rfl rfl (by simp [taggedL, tagged, tagStroke]) fun B hB => ?_
  refine aw_lens (x := .ptr false [slStroke false a.Strokes]) 0 rfl (fun len_a => ?_)
  simp [LenOK, LenL, cPoint, cStroke, fPoint, fStroke, slPoint, slStroke] at len_a
  refine aw_lens (x := .ptr false [slStroke false b.Strokes]) 1 rfl (fun len_b => ?_)
  simp [LenOK, LenL, cPoint, cStroke, fPoint, fStroke, slPoint, slStroke] at len_b
  refine aw_seq ?_
  refine aw_reg [] [0, 1] [] [.ptr false [slStroke false a.Strokes], .ptr false [slStroke false b.Strokes]] [] [] (by kernel_rfl) hB trivial ?_
  refine ae_then ?_
  refine aw_seq ?_
  refine aw_seq ?_
  by_cases h1 : (a.Strokes.length : Int) = (b.Strokes.length : Int)
  ·have hlen : a.Strokes.length = b.Strokes.length := by omega
   refine aw_reg [(10, .dec false)] [0, 1, 16] [] [.ptr false [slStroke false a.Strokes], .ptr false [slStroke false b.Strokes], Bv false] [] [¬ ((a.Strokes.length : Int) ≠ (b.Strokes.length : Int))] (by kernel_rfl) hB ⟨(fun hq => hq h1), trivial⟩ ?_
   refine ae_then ?_
   refine aw_false rfl ?_
   refine aw_skip ?_
   refine ae_then ?_
   refine aw_seq ?_
   refine aw_seq ?_
   refine aw_reg [] [0, 1, 5] [] [.ptr false [slStroke false a.Strokes], .ptr false [slStroke false b.Strokes], I 0] [] [] (by kernel_rfl) hB trivial ?_
   refine ae_then ?_
   refine aw_block ?_
   refine aw_loop (fun gn gσ => ∃ (i : Int), gn = ((a.Strokes.length : Int) - i).toNat ∧ (0 ≤ i ∧ i ≤ (a.Strokes.length : Int)) ∧ (∀ j : Nat, (j : Int) < i → sameS (at_ a.Strokes j) (at_ b.Strokes j) = true) ∧ gσ = mkS [(0, .ptr false [slStroke false a.Strokes]), (1, .ptr false [slStroke false b.Strokes]), (5, I i)] []) (((a.Strokes.length : Int) - 0).toNat) ⟨0, rfl, (by omega), (by intro j hj; omega), rfl⟩ (fun gn gσ hI => ?_)
   obtain ⟨i, rfl, hi0, hall0, rfl⟩ := hI
   refine aw_seq ?_
   refine aw_seq ?_
   by_cases h2 : i < (a.Strokes.length : Int)
   ·have hi : i.toNat < a.Strokes.length := by omega
    have hi2 : i.toNat < b.Strokes.length := by omega
    refine aw_reg [(6, .dec true)] [0, 1, 5, 23] [] [.ptr false [slStroke false a.Strokes], .ptr false [slStroke false b.Strokes], I i, Bv true] [] [i < (a.Strokes.length : Int)] (by kernel_rfl) hB ⟨h2, trivial⟩ ?_
    refine ae_then ?_
    refine aw_true rfl ?_
    refine aw_skip ?_
    refine ae_then ?_
    refine aw_seq ?_
    refine aw_block ?_
    refine aw_seq ?_
    rcases Bool.eq_false_or_eq_true (sameS (at_ a.Strokes i.toNat) (at_ b.Strokes i.toNat)) with h3 | h3
    ·have hok : sameS (at_ a.Strokes i.toNat) (at_ b.Strokes i.toNat) = true := h3
     refine aw_reg [(12, .call [(true, .ptr false [slPoint false ((at_ a.Strokes i.toNat).Points)]), (true, .ptr false [slPoint false ((at_ b.Strokes i.toNat).Points)])] true (Bv true))] [0, 1, 5, 39] [] [.ptr false [slStroke false a.Strokes], .ptr false [slStroke false b.Strokes], I i, Bv false] [] [(0 : Int) ≤ i ∧ i < (a.Strokes.length : Int), (0 : Int) ≤ i ∧ i < (b.Strokes.length : Int), Con Try.prog 45 [.ptr false [slPoint false ((at_ a.Strokes i.toNat).Points)], .ptr false [slPoint false ((at_ b.Strokes i.toNat).Points)]] true (Bv true) ∧ ((.ptr false [slPoint false ((at_ a.Strokes i.toNat).Points)] : AV) = .ptr false [slPoint false ((at_ a.Strokes i.toNat).Points)]) ∧ ((.ptr false [slPoint false ((at_ b.Strokes i.toNat).Points)] : AV) = .ptr false [slPoint false ((at_ b.Strokes i.toNat).Points)]) ∧ True] (by kernel_rfl) hB ⟨⟨(by omega), (by omega)⟩, ⟨(by omega), (by omega)⟩, ⟨(con_bool h3 (l02SameStroke_ok (at_ a.Strokes i.toNat) (at_ b.Strokes i.toNat))), rfl, rfl, trivial⟩, trivial⟩ ?_
     refine ae_then ?_
     refine aw_false rfl ?_
     refine aw_skip ?_
     refine ae_block 1 ?_
     refine ae_then ?_
     refine aw_reg [] [0, 1, 5] [] [.ptr false [slStroke false a.Strokes], .ptr false [slStroke false b.Strokes], I (i + 1)] [] [inR .i64 (i + 1)] (by kernel_rfl) hB ⟨(inR_i64 (by omega) (by omega)), trivial⟩ ?_
     exact ae_again _ (by omega) ⟨(i + 1), rfl, (by omega), (by intro j hj; by_cases ej : j = i.toNat; (subst ej; first | assumption | exact hok); exact hall0 j (by omega)), rfl⟩
    ·have hall : allN a.Strokes.length (fun j => sameS (at_ a.Strokes j) (at_ b.Strokes j)) = false := allN_not hi (by simpa using h3)
     refine aw_reg [(12, .call [(true, .ptr false [slPoint false ((at_ a.Strokes i.toNat).Points)]), (true, .ptr false [slPoint false ((at_ b.Strokes i.toNat).Points)])] true (Bv false))] [0, 1, 5, 39] [] [.ptr false [slStroke false a.Strokes], .ptr false [slStroke false b.Strokes], I i, Bv true] [] [(0 : Int) ≤ i ∧ i < (a.Strokes.length : Int), (0 : Int) ≤ i ∧ i < (b.Strokes.length : Int), Con Try.prog 45 [.ptr false [slPoint false ((at_ a.Strokes i.toNat).Points)], .ptr false [slPoint false ((at_ b.Strokes i.toNat).Points)]] true (Bv false) ∧ ((.ptr false [slPoint false ((at_ a.Strokes i.toNat).Points)] : AV) = .ptr false [slPoint false ((at_ a.Strokes i.toNat).Points)]) ∧ ((.ptr false [slPoint false ((at_ b.Strokes i.toNat).Points)] : AV) = .ptr false [slPoint false ((at_ b.Strokes i.toNat).Points)]) ∧ True] (by kernel_rfl) hB ⟨⟨(by omega), (by omega)⟩, ⟨(by omega), (by omega)⟩, ⟨(con_bool h3 (l02SameStroke_ok (at_ a.Strokes i.toNat) (at_ b.Strokes i.toNat))), rfl, rfl, trivial⟩, trivial⟩ ?_
     refine ae_then ?_
     refine aw_true rfl ?_
     refine aw_seq ?_
     refine aw_reg [] [4] [] [Bv false] [] [] (by kernel_rfl) hB trivial ?_
     refine ae_then ?_
     refine aw_ret ?_
     refine ae_ret_block (ae_ret_then (ae_ret_then (ae_ret_block (ae_ret_then ?_))))
     refine ae_ret hB (Bv false) (by kernel_rfl) (.inl (by first | (simp [sameI, hlen]; done) | (unfold sameI; rw [hall]; simp [hlen]))) rfl (fun _ => trivial)
   ·have hall : allN a.Strokes.length (fun j => sameS (at_ a.Strokes j) (at_ b.Strokes j)) = true := allN_at (fun j hj => hall0 j (by omega))
    refine aw_reg [(6, .dec false)] [0, 1, 5, 23] [] [.ptr false [slStroke false a.Strokes], .ptr false [slStroke false b.Strokes], I i, Bv false] [] [¬ (i < (a.Strokes.length : Int))] (by kernel_rfl) hB ⟨h2, trivial⟩ ?_
    refine ae_then ?_
    refine aw_false rfl ?_
    refine aw_exit ?_
    refine ae_exit_then ?_
    refine ae_exit_then ?_
    refine ae_exit_same ?_
    refine ae_then ?_
    refine aw_seq ?_
    refine aw_reg [] [4] [] [Bv true] [] [] (by kernel_rfl) hB trivial ?_
    refine ae_then ?_
    refine aw_ret ?_
    refine ae_ret hB (Bv true) (by kernel_rfl) (.inl (by first | (simp [sameI, hlen]; done) | (unfold sameI; rw [hall]; simp [hlen]))) rfl (fun _ => trivial)
  ·have hlen : ¬ a.Strokes.length = b.Strokes.length := by omega
   refine aw_reg [(10, .dec true)] [0, 1, 16] [] [.ptr false [slStroke false a.Strokes], .ptr false [slStroke false b.Strokes], Bv true] [] [(a.Strokes.length : Int) ≠ (b.Strokes.length : Int)] (by kernel_rfl) hB ⟨h1, trivial⟩ ?_
   refine ae_then ?_
   refine aw_true rfl ?_
   refine aw_seq ?_
   refine aw_reg [] [4] [] [Bv false] [] [] (by kernel_rfl) hB trivial ?_
   refine ae_then ?_
   refine aw_ret ?_
   refine ae_ret_then ?_
   refine ae_ret hB (Bv false) (by kernel_rfl) (.inl (by first | (simp [sameI, hlen]; done) | (unfold sameI; rw [hall]; simp [hlen]))) rfl (fun _ => trivial)


-- spec.SameInk
theorem specSameInk_ok (a : Ink) (b : Ink) : Con Try.prog 11 [.agg [slStroke false a.Strokes], .agg [slStroke false b.Strokes]] true (Bv (sameI a b)) := by
  refine fn_ok (fn := Try.f11) (nt := 6) Try.func11 rfl rfl rfl rfl (by simp [taggedL, tagged, tagStroke]) fun B hB => ?_
  refine aw_lens (x := .agg [slStroke false a.Strokes]) 0 rfl (fun len_a => ?_)
  simp [LenOK, LenL, cPoint, cStroke, fPoint, fStroke, slPoint, slStroke] at len_a
  refine aw_lens (x := .agg [slStroke false b.Strokes]) 1 rfl (fun len_b => ?_)
  simp [LenOK, LenL, cPoint, cStroke, fPoint, fStroke, slPoint, slStroke] at len_b
  refine aw_seq ?_
  refine aw_reg [(0, .new 2), (1, .new 3)] [2, 3] [2, 3] [.ref 2 0, .ref 3 0] [some (.box [slStroke false a.Strokes]), some (.box [slStroke false b.Strokes])] [] (by kernel_rfl) hB trivial ?_
  refine ae_then ?_
  refine aw_seq ?_
  refine aw_reg [(0, .call [(false, .ptr false [slStroke false a.Strokes]), (false, .ptr false [slStroke false b.Strokes])] true (Bv (sameI a b)))] [4] [] [Bv (sameI a b)] [] [Con Try.prog 28 [.ptr false [slStroke false a.Strokes], .ptr false [slStroke false b.Strokes]] true (Bv (sameI a b)) ∧ ((false = true → true = true) ∧ AV.idsL [slStroke false a.Strokes] = [] ∧ ((false = true → false = true) ∧ 1 = 1 ∧ a.Strokes.length = a.Strokes.length ∧ ∀ i, i < a.Strokes.length → (fStroke false a.Strokes) i = (fStroke false a.Strokes) i ∨ (AV.idsL ((fStroke false a.Strokes) i) = [] ∧ leL (fun _ => none) false ((fStroke false a.Strokes) i) ((fStroke false a.Strokes) i))) ∧ ([] : List AV) = []) ∧ ((false = true → true = true) ∧ AV.idsL [slStroke false b.Strokes] = [] ∧ ((false = true → false = true) ∧ 1 = 1 ∧ b.Strokes.length = b.Strokes.length ∧ ∀ i, i < b.Strokes.length → (fStroke false b.Strokes) i = (fStroke false b.Strokes) i ∨ (AV.idsL ((fStroke false b.Strokes) i) = [] ∧ leL (fun _ => none) false ((fStroke false b.Strokes) i) ((fStroke false b.Strokes) i))) ∧ ([] : List AV) = []) ∧ True] (by kernel_rfl) hB ⟨⟨(l02Same_ok a b), ⟨(fun h => by cases h), rfl, ⟨⟨(fun h => by cases h), rfl, rfl, fun i _ => .inl rfl⟩, rfl⟩⟩, ⟨(fun h => by cases h), rfl, ⟨⟨(fun h => by cases h), rfl, rfl, fun i _ => .inl rfl⟩, rfl⟩⟩, trivial⟩, trivial⟩ ?_
  refine ae_then ?_
  refine aw_ret ?_
  refine ae_ret hB (Bv (sameI a b)) (by kernel_rfl) (.inl rfl) rfl (fun _ => trivial)


-- impl.groupsOf
theorem groupsOf_ok (places : Int) (hp : 0 ≤ places ∧ places ≤ 1000) : ∃ (ls : List Group), (places ≤ (ls.length : Int) ∧ (ls.length : Int) ≤ 3 * places) ∧ Con Try.prog 29 [I places] true (slGroup true ls) := by
  have hh : ∃ r : (List Group), ((places ≤ (r.length : Int) ∧ (r.length : Int) ≤ 3 * places) ∧ (True)) ∧ CallOK Try.prog 29 [I places] (lookO []) true (slGroup true r) (lookO []) := by
    refine fn_okX (Φ := fun r : (List Group) => (places ≤ (r.length : Int) ∧ (r.length : Int) ≤ 3 * places) ∧ (True)) [] (fun r => []) (fn := Try.f29) (nt := 28) Try.func29 rfl rfl (args := [I places]) rfl (allcons (.inl ⟨rfl, trivial⟩) allnil) (res := fun r => slGroup true r) ?_
    refine x_seq ?_
    refine x_reg [] [0] [] [I places] [] [] (by kernel_rfl) trivial ?_
    refine xe_then ?_
    refine x_seq ?_
    refine x_reg [] [0, 3] [] [I places, nilA] [] [] (by kernel_rfl) trivial ?_
    refine xe_then ?_
    refine x_seq ?_
    refine x_seq ?_
    refine x_reg [] [0, 3, 4] [] [I places, nilA, I 0] [] [] (by kernel_rfl) trivial ?_
    refine xe_then ?_
    refine x_block ?_
    refine x_nil 3 703 2 (fun _ => []) (by kernel_rfl) ?_
    refine x_weak [] (T := [(0, I places), (3, .arr 703), (4, I 0)]) (O := [(703, .arr 2 (([] : List Group).length) (fGroup ([] : List Group)))]) rfl (⟨.inl rfl, .inl rfl, .inl rfl, trivial⟩) (⟨.inr ⟨rfl, (by first | rfl | (simp; done) | (simp; omega) | omega), fun i_ hi_ => absurd hi_ (Nat.not_lt_zero _)⟩, trivial⟩) ?_
    refine x_loop (X := (List Group) × Int) (fun x => mkS [(0, I places), (3, .arr 703), (4, I x.2)] [(703, .arr 2 x.1.length (fGroup x.1))]) (fun x => (0 ≤ x.2 ∧ x.2 ≤ places) ∧ (x.2 ≤ (x.1.length : Int) ∧ (x.1.length : Int) ≤ 3 * x.2) ∧ True) (fun x => (places - x.2).toNat) (([] : List Group), 0) rfl (show (0 ≤ (0 : Int) ∧ (0 : Int) ≤ places) ∧ ((0 : Int) ≤ (([] : List Group).length : Int) ∧ (([] : List Group).length : Int) ≤ 3 * (0 : Int)) ∧ True from ⟨(by omega), (by simp), trivial⟩) (fun x hI => ?_)
    obtain ⟨ls, fr⟩ := x
    obtain ⟨hf0, hl0, _⟩ : (0 ≤ fr ∧ fr ≤ places) ∧ (fr ≤ (ls.length : Int) ∧ (ls.length : Int) ≤ 3 * fr) ∧ True := hI
    show XW _ _ _ _ (mkS [(0, I places), (3, .arr 703), (4, I fr)] [(703, .arr 2 ls.length (fGroup ls))]) _ _
    refine x_seq ?_
    refine x_seq ?_
    by_cases h1 : fr < places
    ·refine x_reg [(2, .dec true)] [0, 3, 4, 8] [703] [I places, .arr 703, I fr, Bv true] [some (.arr 2 ls.length (fGroup ls))] [fr < places] (by kernel_rfl) ⟨h1, trivial⟩ ?_
     refine xe_then ?_
     refine x_true rfl ?_
     refine x_skip ?_
     refine xe_then ?_
     refine x_seq ?_
     refine x_block ?_
     refine x_seq ?_
     refine x_reg [] [0, 3, 4, 5] [703] [I places, .arr 703, I fr, I (fr + 1)] [some (.arr 2 ls.length (fGroup ls))] [inR .i64 (fr + 1)] (by kernel_rfl) ⟨(inR_i64 (by omega) (by omega)), trivial⟩ ?_
     refine xe_then ?_
     refine x_block ?_
     refine x_loop (X := (List Group) × Int) (fun x => mkS [(0, I places), (3, .arr 703), (4, I fr), (5, I x.2)] [(703, .arr 2 x.1.length (fGroup x.1))]) (fun x => (fr + 1 ≤ x.2 ∧ x.2 ≤ fr + 4) ∧ ((x.2 = fr + 1 → fr ≤ (x.1.length : Int)) ∧ (fr + 2 ≤ x.2 → fr + 1 ≤ (x.1.length : Int))) ∧ ((x.1.length : Int) ≤ 3 * fr + (x.2 - fr - 1)) ∧ True) (fun x => (fr + 4 - x.2).toNat) (ls, (fr + 1)) rfl (show (fr + 1 ≤ (fr + 1) ∧ (fr + 1) ≤ fr + 4) ∧ (((fr + 1) = fr + 1 → fr ≤ (ls.length : Int)) ∧ (fr + 2 ≤ (fr + 1) → fr + 1 ≤ (ls.length : Int))) ∧ ((ls.length : Int) ≤ 3 * fr + ((fr + 1) - fr - 1)) ∧ True from ⟨(by omega), (by omega), (by omega), trivial⟩) (fun x hI => ?_)
     obtain ⟨ls2, to⟩ := x
     obtain ⟨ht0, hl1, hl2, _⟩ : (fr + 1 ≤ to ∧ to ≤ fr + 4) ∧ ((to = fr + 1 → fr ≤ (ls2.length : Int)) ∧ (fr + 2 ≤ to → fr + 1 ≤ (ls2.length : Int))) ∧ ((ls2.length : Int) ≤ 3 * fr + (to - fr - 1)) ∧ True := hI
     show XW _ _ _ _ (mkS [(0, I places), (3, .arr 703), (4, I fr), (5, I to)] [(703, .arr 2 ls2.length (fGroup ls2))]) _ _
     refine x_seq ?_
     refine x_seq ?_
     by_cases h2 : to ≤ (min (fr + 3) places)
     ·refine x_reg [(5, .dec true)] [0, 3, 4, 5, 18] [703] [I places, .arr 703, I fr, I to, Bv true] [some (.arr 2 ls2.length (fGroup ls2))] [inR .i64 (fr + 3), to ≤ (min (fr + 3) places)] (by kernel_rfl) ⟨(inR_i64 (by omega) (by omega)), h2, trivial⟩ ?_
      refine xe_then ?_
      refine x_true rfl ?_
      refine x_skip ?_
      refine xe_then ?_
      refine x_seq ?_
      refine x_block ?_
      refine x_reg [(4, .new 25), (5, .new 26)] [0, 3, 4, 5] [26] [I places, .arr 26, I fr, I to] [some (.arr 2 (ls2.length + 1) (catF ls2.length (fGroup ls2) (litF [I fr, I to] 2)))] [(ls2.length + 1) * 16 ≤ 140737488355328] (by kernel_rfl) ⟨(by omega), trivial⟩ ?_
      refine xe_block 3 ?_
      refine xe_then ?_
      refine x_reg [] [0, 3, 4, 5] [26] [I places, .arr 26, I fr, I (to + 1)] [some (.arr 2 (ls2.length + 1) (catF ls2.length (fGroup ls2) (litF [I fr, I to] 2)))] [inR .i64 (to + 1)] (by kernel_rfl) ⟨(inR_i64 (by omega) (by omega)), trivial⟩ ?_
      refine xe_weak [(703, 26)] (T := [(0, I places), (3, .arr 703), (4, I fr), (5, I (to + 1))]) (O := [(703, .arr 2 ((ls2 ++ [(Group.mk fr to)]).length) (fGroup (ls2 ++ [(Group.mk fr to)])))]) rfl (⟨.inl rfl, .inl rfl, .inl rfl, .inl rfl, trivial⟩) (⟨.inr ⟨rfl, (by first | rfl | (simp; done) | (simp; omega) | omega), fun i_ hi_ => .inl (cat_snoc (enc := cGroup) (xs := ls2) rfl i_ hi_)⟩, trivial⟩) (xe_again ((ls2 ++ [(Group.mk fr to)]), (to + 1)) rfl (show (fr + 1 ≤ (to + 1) ∧ (to + 1) ≤ fr + 4) ∧ (((to + 1) = fr + 1 → fr ≤ ((ls2 ++ [(Group.mk fr to)]).length : Int)) ∧ (fr + 2 ≤ (to + 1) → fr + 1 ≤ ((ls2 ++ [(Group.mk fr to)]).length : Int))) ∧ (((ls2 ++ [(Group.mk fr to)]).length : Int) ≤ 3 * fr + ((to + 1) - fr - 1)) ∧ True from ⟨(by omega), (by simp; omega), (by simp; omega), trivial⟩) (by show ((fr + 4 - (to + 1)).toNat : Nat) < (fr + 4 - to).toNat; omega))
     ·refine x_reg [(5, .dec false)] [0, 3, 4, 5, 18] [703] [I places, .arr 703, I fr, I to, Bv false] [some (.arr 2 ls2.length (fGroup ls2))] [inR .i64 (fr + 3), ¬ (to ≤ (min (fr + 3) places))] (by kernel_rfl) ⟨(inR_i64 (by omega) (by omega)), h2, trivial⟩ ?_
      refine xe_then ?_
      refine x_false rfl ?_
      refine x_exit ?_
      refine xe_exit_then ?_
      refine xe_loop_exit ?_
      refine xe_exit_same ?_
      refine xe_block 1 ?_
      refine xe_then ?_
      refine x_reg [] [0, 3, 4] [703] [I places, .arr 703, I (fr + 1)] [some (.arr 2 ls2.length (fGroup ls2))] [inR .i64 (fr + 1)] (by kernel_rfl) ⟨(inR_i64 (by omega) (by omega)), trivial⟩ ?_
      exact xe_again (ls2, (fr + 1)) rfl (show (0 ≤ (fr + 1) ∧ (fr + 1) ≤ places) ∧ ((fr + 1) ≤ (ls2.length : Int) ∧ (ls2.length : Int) ≤ 3 * (fr + 1)) ∧ True from ⟨(by omega), (by omega), trivial⟩) (by show ((places - (fr + 1)).toNat : Nat) < (places - fr).toNat; omega)
    ·refine x_reg [(2, .dec false)] [0, 3, 4, 8] [703] [I places, .arr 703, I fr, Bv false] [some (.arr 2 ls.length (fGroup ls))] [¬ (fr < places)] (by kernel_rfl) ⟨h1, trivial⟩ ?_
     refine xe_then ?_
     refine x_false rfl ?_
     refine x_exit ?_
     refine xe_exit_then ?_
     refine xe_loop_exit ?_
     refine xe_exit_same ?_
     refine xe_then ?_
     refine x_seq ?_
     refine x_reg [] [2] [703] [.arr 703] [some (.arr 2 ls.length (fGroup ls))] [] (by kernel_rfl) trivial ?_
     refine xe_then ?_
     refine x_ret ?_
     refine xe_end ls (show (places ≤ (ls.length : Int) ∧ (ls.length : Int) ≤ 3 * places) ∧ (True) from ⟨(by omega), trivial⟩) (trivial) (.arr 703) (by kernel_rfl) (.inr ⟨(fun _ => rfl), rfl, rfl, fun i _ => .inl rfl⟩) (fun _ => rfl) (fun _ => (tagGroup true _))
  obtain ⟨ls, ⟨hh0, _⟩, hc⟩ := hh
  exact ⟨ls, hh0, hc⟩


-- impl.GroupsOf
theorem GroupsOf_ok (ik : Ink) (ok : okInk' ik = true) : ∃ (ls : List Group) (c : Int), ((ik.Strokes.length : Int) ≤ (ls.length : Int) ∧ (ls.length : Int) ≤ 3 * (ik.Strokes.length : Int)) ∧ (c = 0) ∧ Con Try.prog 12 [.agg [slStroke false ik.Strokes]] true (.tup [slGroup true ls, I c]) := by
  have hil := okI_len ok
  have hh : ∃ r : (List Group) × Int, (((ik.Strokes.length : Int) ≤ (r.1.length : Int) ∧ (r.1.length : Int) ≤ 3 * (ik.Strokes.length : Int)) ∧ (r.2 = 0) ∧ (True)) ∧ CallOK Try.prog 12 [.agg [slStroke false ik.Strokes]] (lookO []) true (.tup [slGroup true r.1, I r.2]) (lookO []) := by
    refine fn_okX (Φ := fun r : (List Group) × Int => ((ik.Strokes.length : Int) ≤ (r.1.length : Int) ∧ (r.1.length : Int) ≤ 3 * (ik.Strokes.length : Int)) ∧ (r.2 = 0) ∧ (True)) [] (fun r => []) (fn := Try.f12) (nt := 11) Try.func12 rfl rfl (args := [.agg [slStroke false ik.Strokes]]) rfl (allcons (.inl ⟨rfl, by simp [tagged, taggedL, tagStroke]⟩) allnil) (res := fun r => .tup [slGroup true r.1, I r.2]) ?_
    refine x_seq ?_
    refine x_reg [(0, .new 1)] [1] [1] [.ref 1 0] [some (.box [slStroke false ik.Strokes])] [] (by kernel_rfl) trivial ?_
    refine xe_then ?_
    refine x_seq ?_
    refine x_seq ?_
    refine x_reg [(1, .call [(true, .agg [slStroke false ik.Strokes])] true (Bv true))] [1, 6] [1] [.ref 1 0, Bv false] [some (.box [slStroke false ik.Strokes])] [Con Try.prog 20 [.agg [slStroke false ik.Strokes]] true (Bv true) ∧ ((.agg [slStroke false ik.Strokes] : AV) = .agg [slStroke false ik.Strokes]) ∧ True] (by kernel_rfl) ⟨⟨(con_bool ok (ValidInk_ok ik)), rfl, trivial⟩, trivial⟩ ?_
    refine xe_then ?_
    refine x_false rfl ?_
    refine x_skip ?_
    refine xe_then ?_
    refine x_seq ?_
    obtain ⟨ls_1, hx1_0, hc1⟩ := groupsOf_ok (ik.Strokes.length : Int) (by omega)
    refine x_reg [(3, .call [(true, I (ik.Strokes.length : Int))] true (slGroup true ls_1))] [2, 3] [] [slGroup true ls_1, I 0] [] [Con Try.prog 29 [I (ik.Strokes.length : Int)] true (slGroup true ls_1) ∧ ((I (ik.Strokes.length : Int) : AV) = I (ik.Strokes.length : Int)) ∧ True] (by kernel_rfl) ⟨⟨hc1, rfl, trivial⟩, trivial⟩ ?_
    refine xe_then ?_
    refine x_ret ?_
    refine xe_end (ls_1, 0) (show ((ik.Strokes.length : Int) ≤ (ls_1.length : Int) ∧ (ls_1.length : Int) ≤ 3 * (ik.Strokes.length : Int)) ∧ (0 = 0) ∧ (True) from ⟨(by first | assumption | rfl | omega), (by first | assumption | rfl | omega), trivial⟩) (trivial) (.tup [slGroup true ls_1, I 0]) (by kernel_rfl) (.inl rfl) (fun _ => rfl) (fun _ => (by simp [tagged, taggedL, tagGroup]))
  obtain ⟨⟨ls, c⟩, ⟨hh0, hh1, _⟩, hc⟩ := hh
  exact ⟨ls, c, hh0, hh1, hc⟩


def a2AtI (code : List Int) (i n : Int) : Int := if (code.length : Int) ≤ i ∨ n < 1 then 0 else at_ code i.toNat % n
theorem a2At_bd (code : List Int) (i : Int) {n : Int} (hn : 1 ≤ n) : 0 ≤ a2AtI code i n ∧ a2AtI code i n < n := by
  unfold a2AtI
  split
  · omega
  · exact ⟨Int.emod_nonneg _ (by omega), Int.emod_lt_of_pos _ (by omega)⟩

-- laws.a2At
theorem a2At_ok (code : List Int) (i : Int) (n : Int) (hc : (∀ j, j < code.length → 0 ≤ at_ code j ∧ at_ code j ≤ 255)) (ha : 0 ≤ i) : Con Try.prog 14 [slU8 false code, I i, I n] true (I (a2AtI code i n)) := by
  refine fn_ok (fn := Try.f14) (nt := 22) Try.func14 rfl rfl rfl rfl (by simp [taggedL, tagged, tagU8]) fun B hB => ?_
  refine aw_lens (x := slU8 false code) 0 rfl (fun len_code => ?_)
  simp [LenOK, LenL, cU8, fU8, slU8] at len_code
  refine aw_seq ?_
  refine aw_reg [] [0, 1, 2] [] [slU8 false code, I i, I n] [] [] (by kernel_rfl) hB trivial ?_
  refine ae_then ?_
  refine aw_seq ?_
  refine aw_seq ?_
  by_cases h1 : (code.length : Int) ≤ i
  ·refine aw_reg [(3, .dec true)] [0, 1, 2, 14] [] [slU8 false code, I i, I n, Bv true] [] [(code.length : Int) ≤ i] (by kernel_rfl) hB ⟨h1, trivial⟩ ?_
   refine ae_then ?_
   refine aw_true rfl ?_
   refine aw_seq ?_
   refine aw_reg [] [6] [] [I 0] [] [] (by kernel_rfl) hB trivial ?_
   refine ae_then ?_
   refine aw_ret ?_
   refine ae_ret_then ?_
   refine ae_ret hB (I 0) (by kernel_rfl) (.inl (by simp [a2AtI, *])) rfl (fun _ => trivial)
  ·have hq := hc i.toNat (by omega)
   by_cases h2 : n < 1
   ·refine aw_reg [(3, .dec false), (6, .dec true)] [0, 1, 2, 14] [] [slU8 false code, I i, I n, Bv true] [] [¬ ((code.length : Int) ≤ i), n < 1] (by kernel_rfl) hB ⟨h1, h2, trivial⟩ ?_
    refine ae_then ?_
    refine aw_true rfl ?_
    refine aw_seq ?_
    refine aw_reg [] [6] [] [I 0] [] [] (by kernel_rfl) hB trivial ?_
    refine ae_then ?_
    refine aw_ret ?_
    refine ae_ret_then ?_
    refine ae_ret hB (I 0) (by kernel_rfl) (.inl (by simp [a2AtI, *])) rfl (fun _ => trivial)
   ·refine aw_reg [(3, .dec false), (6, .dec false)] [0, 1, 2, 14] [] [slU8 false code, I i, I n, Bv false] [] [¬ ((code.length : Int) ≤ i), ¬ (n < 1)] (by kernel_rfl) hB ⟨h1, h2, trivial⟩ ?_
    refine ae_then ?_
    refine aw_false rfl ?_
    refine aw_skip ?_
    refine ae_then ?_
    refine aw_seq ?_
    refine aw_reg [(6, .nn)] [6] [] [I ((at_ code i.toNat) % n)] [] [(0 : Int) ≤ i ∧ i < (code.length : Int), inR .i64 (at_ code i.toNat), (0 : Int) ≤ (at_ code i.toNat) ∧ (0 : Int) < n] (by kernel_rfl) hB ⟨⟨(by omega), (by omega)⟩, (inR_i64 (by omega) (by omega)), ⟨(by omega), (by omega)⟩, trivial⟩ ?_
    refine ae_then ?_
    refine aw_ret ?_
    refine ae_ret hB (I ((at_ code i.toNat) % n)) (by kernel_rfl) (.inl (by simp [a2AtI, *])) rfl (fun _ => trivial)


-- impl.gapAt
theorem gapAt_ok (ik : Ink) (order : List Int) (place : Int) (ok : okInk' ik = true) (ho : order = ordL ik.Strokes) (hp : 0 ≤ place ∧ place < (ik.Strokes.length : Int)) : Con Try.prog 31 [.agg [slStroke false ik.Strokes], slI false order, I place] true (I (gapI ik.Strokes order place.toNat)) := by
  have hil := okI_len ok
  have hol := ordL_len ik.Strokes
  rw [← ho] at hol
  have hpa := ordL_at (ss := ik.Strokes) (k := place.toNat) (by omega)
  rw [← ho] at hpa
  have hpx : (at_ order place.toNat).toNat < ik.Strokes.length := by omega
  have hops := okI_all ok _ hpx
  have hbp := boxS_all hops
  unfold okBox at hbp
  refine fn_ok (fn := Try.f31) (nt := 40) Try.func31 rfl rfl rfl rfl (by simp [taggedL, tagged, tagI, tagStroke]) fun B hB => ?_
  refine aw_lens (x := .agg [slStroke false ik.Strokes]) 0 rfl (fun len_ik => ?_)
  simp [LenOK, LenL, cPoint, cStroke, fPoint, fStroke, slPoint, slStroke] at len_ik
  refine aw_lens (x := slI false order) 1 rfl (fun len_order => ?_)
  simp [LenOK, LenL, cI, fI, slI] at len_order
  refine aw_seq ?_
  refine aw_reg [(0, .new 3)] [1, 2, 3] [3] [slI false order, I place, .ref 3 0] [some (.box [slStroke false ik.Strokes])] [] (by kernel_rfl) hB trivial ?_
  refine ae_then ?_
  refine aw_seq ?_
  refine aw_reg [] [1, 2, 3, 7] [3] [slI false order, I place, .ref 3 0, I 0] [some (.box [slStroke false ik.Strokes])] [] (by kernel_rfl) hB trivial ?_
  refine ae_then ?_
  refine aw_seq ?_
  refine aw_seq ?_
  refine aw_reg [] [1, 2, 3, 7, 12, 13, 14] [3] [slI false order, I place, .ref 3 0, I 0, .sl false 1 (place.toNat - 0) (cutF 0 (fI order)), I ((place.toNat - 0) : Int), I 0] [some (.box [slStroke false ik.Strokes])] [(0 : Int) ≤ 0 ∧ (0 : Int) ≤ place ∧ place ≤ (order.length : Int)] (by kernel_rfl) hB ⟨⟨(by omega), (by omega), (by omega)⟩, trivial⟩ ?_
  refine ae_then ?_
  refine aw_block ?_
  refine aw_loop (fun gn gσ => ∃ (right : Int) (t14 : Int), gn = (place - t14).toNat ∧ (0 ≤ t14 ∧ t14 ≤ place) ∧ (right = rightI ik.Strokes order t14.toNat) ∧ (0 ≤ right ∧ right ≤ 4095) ∧ gσ = mkS [(1, slI false order), (2, I place), (3, .ref 3 0), (7, I right), (12, .sl false 1 (place.toNat - 0) (cutF 0 (fI order))), (13, I ((place.toNat - 0) : Int)), (14, I t14)] [(3, .box [slStroke false ik.Strokes])]) ((place - 0).toNat) ⟨0, 0, rfl, (by omega), (by rfl), (by omega), rfl⟩ (fun gn gσ hI => ?_)
  obtain ⟨right, t14, rfl, hi0, hr0, hrb, rfl⟩ := hI
  refine aw_seq ?_
  by_cases h1 : t14 < ((place.toNat - 0) : Int)
  ·have hz : 0 + t14.toNat = t14.toNat := Nat.zero_add _
   have hi : (0 + t14.toNat) < order.length := by omega
   have hoa := ordL_at (ss := ik.Strokes) (k := (0 + t14.toNat)) (by omega)
   rw [← ho] at hoa
   have hix : (at_ order (0 + t14.toNat)).toNat < ik.Strokes.length := by omega
   have hos := okI_all ok _ hix
   have hbo := boxS_all hos
   unfold okBox at hbo
   have hrs := rightI_succ (ss := ik.Strokes) (o := order) hi0.1
   rw [← hr0] at hrs
   rw [← hz] at hrs
   refine aw_reg [(0, .dec true)] [1, 2, 3, 7, 12, 13, 14, 15] [3] [slI false order, I place, .ref 3 0, I right, .sl false 1 (place.toNat - 0) (cutF 0 (fI order)), I ((place.toNat - 0) : Int), I t14, Bv true] [some (.box [slStroke false ik.Strokes])] [t14 < ((place.toNat - 0) : Int)] (by kernel_rfl) hB ⟨h1, trivial⟩ ?_
   refine ae_then ?_
   refine aw_seq ?_
   refine aw_true rfl ?_
   refine aw_skip ?_
   refine ae_then ?_
   refine aw_seq ?_
   refine aw_block ?_
   refine aw_seq ?_
   refine aw_reg [] [1, 2, 3, 7, 9, 12, 13, 14] [3] [slI false order, I place, .ref 3 0, I right, I (at_ order (0 + t14.toNat)), .sl false 1 (place.toNat - 0) (cutF 0 (fI order)), I ((place.toNat - 0) : Int), I t14] [some (.box [slStroke false ik.Strokes])] [(0 : Int) ≤ t14 ∧ t14 < ((place.toNat - 0) : Int)] (by kernel_rfl) hB ⟨⟨(by omega), (by omega)⟩, trivial⟩ ?_
   refine ae_then ?_
   refine aw_reg [(6, .call [(true, .agg [slPoint false ((at_ ik.Strokes ((at_ order (0 + t14.toNat)).toNat)).Points)])] true (agBox (boxS (at_ ik.Strokes ((at_ order (0 + t14.toNat)).toNat)).Points (at_ ik.Strokes ((at_ order (0 + t14.toNat)).toNat)).Points.length)))] [1, 2, 3, 7, 12, 13, 14] [3] [slI false order, I place, .ref 3 0, I (max right ((boxS (at_ ik.Strokes ((at_ order (0 + t14.toNat)).toNat)).Points (at_ ik.Strokes ((at_ order (0 + t14.toNat)).toNat)).Points.length).X2)), .sl false 1 (place.toNat - 0) (cutF 0 (fI order)), I ((place.toNat - 0) : Int), I t14] [some (.box [slStroke false ik.Strokes])] [(0 : Int) ≤ (at_ order (0 + t14.toNat)) ∧ (at_ order (0 + t14.toNat)) < (ik.Strokes.length : Int), Con Try.prog 41 [.agg [slPoint false ((at_ ik.Strokes ((at_ order (0 + t14.toNat)).toNat)).Points)]] true (agBox (boxS (at_ ik.Strokes ((at_ order (0 + t14.toNat)).toNat)).Points (at_ ik.Strokes ((at_ order (0 + t14.toNat)).toNat)).Points.length)) ∧ ((.agg [slPoint false ((at_ ik.Strokes ((at_ order (0 + t14.toNat)).toNat)).Points)] : AV) = .agg [slPoint false ((at_ ik.Strokes ((at_ order (0 + t14.toNat)).toNat)).Points)]) ∧ True] (by kernel_rfl) hB ⟨⟨(by omega), (by omega)⟩, ⟨(boxOfStroke_ok (at_ ik.Strokes ((at_ order (0 + t14.toNat)).toNat)) (by first | assumption | exact okI_all ok _ (by omega))), rfl, trivial⟩, trivial⟩ ?_
   refine ae_block 1 ?_
   refine ae_then ?_
   refine aw_reg [] [1, 2, 3, 7, 12, 13, 14] [3] [slI false order, I place, .ref 3 0, I (max right ((boxS (at_ ik.Strokes ((at_ order (0 + t14.toNat)).toNat)).Points (at_ ik.Strokes ((at_ order (0 + t14.toNat)).toNat)).Points.length).X2)), .sl false 1 (place.toNat - 0) (cutF 0 (fI order)), I ((place.toNat - 0) : Int), I (t14 + 1)] [some (.box [slStroke false ik.Strokes])] [inR .i64 (t14 + 1)] (by kernel_rfl) hB ⟨(inR_i64 (by omega) (by omega)), trivial⟩ ?_
   exact ae_again _ (by omega) ⟨(max right ((boxS (at_ ik.Strokes ((at_ order (0 + t14.toNat)).toNat)).Points (at_ ik.Strokes ((at_ order (0 + t14.toNat)).toNat)).Points.length).X2)), (t14 + 1), rfl, (by omega), (by first | exact hrs.symm | (rw [hrs]; done) | (rw [← hrs, hz])), (by omega), rfl⟩
  ·have hie : t14.toNat = place.toNat := by omega
   refine aw_reg [(0, .dec false)] [1, 2, 3, 7, 12, 13, 14, 15] [3] [slI false order, I place, .ref 3 0, I right, .sl false 1 (place.toNat - 0) (cutF 0 (fI order)), I ((place.toNat - 0) : Int), I t14, Bv false] [some (.box [slStroke false ik.Strokes])] [¬ (t14 < ((place.toNat - 0) : Int))] (by kernel_rfl) hB ⟨h1, trivial⟩ ?_
   refine ae_then ?_
   refine aw_seq ?_
   refine aw_false rfl ?_
   refine aw_exit ?_
   refine ae_exit_then ?_
   refine ae_exit_then ?_
   refine ae_exit_same ?_
   refine ae_then ?_
   refine aw_seq ?_
   refine aw_reg [(8, .call [(true, .agg [slPoint false ((at_ ik.Strokes ((at_ order place.toNat).toNat)).Points)])] true (agBox (boxS (at_ ik.Strokes ((at_ order place.toNat).toNat)).Points (at_ ik.Strokes ((at_ order place.toNat).toNat)).Points.length)))] [6] [] [I (((boxS (at_ ik.Strokes ((at_ order place.toNat).toNat)).Points (at_ ik.Strokes ((at_ order place.toNat).toNat)).Points.length).X1) - right)] [] [(0 : Int) ≤ place ∧ place < (order.length : Int), (0 : Int) ≤ (at_ order place.toNat) ∧ (at_ order place.toNat) < (ik.Strokes.length : Int), Con Try.prog 41 [.agg [slPoint false ((at_ ik.Strokes ((at_ order place.toNat).toNat)).Points)]] true (agBox (boxS (at_ ik.Strokes ((at_ order place.toNat).toNat)).Points (at_ ik.Strokes ((at_ order place.toNat).toNat)).Points.length)) ∧ ((.agg [slPoint false ((at_ ik.Strokes ((at_ order place.toNat).toNat)).Points)] : AV) = .agg [slPoint false ((at_ ik.Strokes ((at_ order place.toNat).toNat)).Points)]) ∧ True, inR .i64 (((boxS (at_ ik.Strokes ((at_ order place.toNat).toNat)).Points (at_ ik.Strokes ((at_ order place.toNat).toNat)).Points.length).X1) - right)] (by kernel_rfl) hB ⟨⟨(by omega), (by omega)⟩, ⟨(by omega), (by omega)⟩, ⟨(boxOfStroke_ok (at_ ik.Strokes ((at_ order place.toNat).toNat)) (by first | assumption | exact okI_all ok _ (by omega))), rfl, trivial⟩, (inR_i64 (by omega) (by omega)), trivial⟩ ?_
   refine ae_then ?_
   refine aw_ret ?_
   refine ae_ret hB (I (((boxS (at_ ik.Strokes ((at_ order place.toNat).toNat)).Points (at_ ik.Strokes ((at_ order place.toNat).toNat)).Points.length).X1) - right)) (by kernel_rfl) (.inl (by refine congrArg I ?_; rw [gapI, hr0, hie])) rfl (fun _ => trivial)


/-- Groups between gaps, up to a place. -/
def partsP (ss : List Stroke) (gap : Int) (ls : List Group) (p : Int) : Prop :=
  (p = 0 → ls = []) ∧ (0 < p → 1 ≤ ls.length ∧ (at_ ls (ls.length - 1)).To = p) ∧ ∀ i : Nat, i < ls.length → ((at_ ls i).From = (if i = 0 then 0 else (at_ ls (i - 1)).To) ∧ (at_ ls i).From < (at_ ls i).To ∧ (at_ ls i).To ≤ p) ∧ (0 < i → 1 ≤ (at_ ls i).From ∧ gap ≤ gapI ss (ordL ss) (at_ ls i).From.toNat)
theorem parts_nil (ss : List Stroke) (gap : Int) : partsP ss gap [] 0 := ⟨fun _ => rfl, fun h => by omega, fun i hi => by simp at hi⟩
theorem at_app1 {ls : List Group} {g : Group} {i : Nat} (h : i < ls.length) : at_ (ls ++ [g]) i = at_ ls i := by simp [at_, List.getElem?_append_left h]
theorem at_app2 {ls : List Group} {g : Group} : at_ (ls ++ [g]) ls.length = g := by simp [at_]
theorem at_set1 {ls : List Group} {g : Group} {i k : Nat} (h : i ≠ k) : at_ (ls.set k g) i = at_ ls i := by
  have h' : ¬ k = i := fun q => h q.symm
  simp [at_, List.getElem?_set, h']
theorem at_set2 {ls : List Group} {g : Group} {k : Nat} (h : k < ls.length) : at_ (ls.set k g) k = g := by simp [at_, h]
/-- A place that goes on with the last group. -/
theorem parts_on {ss : List Stroke} {gap : Int} {ls : List Group} {p : Int} {k : Nat} {x : Int} (hp : 0 < p) (h : partsP ss gap ls p) (hk : k = ls.length - 1) (hx : x = p + 1) : partsP ss gap (ls.set k (Group.mk (at_ ls k).From x)) (p + 1) := by
  obtain ⟨_, h2, h3⟩ := h
  obtain ⟨h2, h4⟩ := h2 hp
  subst hk hx
  refine ⟨fun e => by omega, fun _ => ⟨by simp; omega, by rw [List.length_set, at_set2 (by omega)]⟩, fun i hi => ?_⟩
  rw [List.length_set] at hi
  have hq := h3 i hi
  have hprev : 0 < i → at_ (ls.set (ls.length - 1) (Group.mk (at_ ls (ls.length - 1)).From (p + 1))) (i - 1) = at_ ls (i - 1) := fun h0 => at_set1 (by omega)
  by_cases e : i = ls.length - 1
  · subst e
    rw [at_set2 (by omega)]
    simp only
    by_cases h0 : ls.length - 1 = 0
    · rw [if_pos h0] at hq ⊢
      exact ⟨⟨hq.1.1, by omega, by omega⟩, fun q => by omega⟩
    · rw [if_neg h0] at hq ⊢
      rw [hprev (by omega)]
      exact ⟨⟨hq.1.1, by omega, by omega⟩, hq.2⟩
  · rw [at_set1 e]
    by_cases h0 : i = 0
    · rw [if_pos h0] at hq ⊢
      exact ⟨⟨hq.1.1, hq.1.2.1, by omega⟩, hq.2⟩
    · rw [if_neg h0] at hq ⊢
      rw [hprev (by omega)]
      exact ⟨⟨hq.1.1, hq.1.2.1, by omega⟩, hq.2⟩
/-- A place that begins a group. -/
theorem parts_new {ss : List Stroke} {gap : Int} {ls : List Group} {p : Int} {k : Nat} {x y : Int} (hp : 0 ≤ p) (h : partsP ss gap ls p) (hg : p = 0 ∨ gap ≤ gapI ss (ordL ss) p.toNat) (hk : k = ls.length) (hy : y = p) (hx : x = p + 1) : partsP ss gap ((ls ++ [Group.mk y 0]).set k (Group.mk (at_ (ls ++ [Group.mk y 0]) k).From x)) (p + 1) := by
  obtain ⟨h1, h2, h3⟩ := h
  subst hk hx
  subst hy
  rw [at_app2]
  have hset : (ls ++ [Group.mk y 0]).set ls.length (Group.mk (Group.mk y 0).From (y + 1)) = ls ++ [Group.mk y (y + 1)] := by simp
  rw [hset]
  refine ⟨fun e => by omega, fun _ => ⟨by simp, by simp [at_app2]⟩, fun i hi => ?_⟩
  simp only [List.length_append, List.length_cons, List.length_nil] at hi
  by_cases e : i = ls.length
  · subst e
    rw [at_app2]
    simp only
    by_cases h0 : ls.length = 0
    · rw [if_pos h0]
      have : y = 0 := by
        by_cases q : y = 0
        · exact q
        · have := (h2 (by omega)).1; omega
      exact ⟨⟨this, by omega, by omega⟩, fun q => by omega⟩
    · rw [if_neg h0, at_app1 (by omega)]
      have hp0 : 0 < y := by
        by_cases q : y = 0
        · rw [h1 q] at h0; simp at h0
        · omega
      exact ⟨⟨(h2 hp0).2.symm, by omega, by omega⟩, fun _ => ⟨by omega, by rcases hg with q | q; omega; exact q⟩⟩
  · have hq := h3 i (by omega)
    rw [at_app1 (by omega)]
    by_cases h0 : i = 0
    · rw [if_pos h0] at hq ⊢
      exact ⟨⟨hq.1.1, hq.1.2.1, by omega⟩, hq.2⟩
    · rw [if_neg h0] at hq ⊢
      rw [at_app1 (by omega)]
      exact ⟨⟨hq.1.1, hq.1.2.1, by omega⟩, hq.2⟩

-- impl.SplitByGaps
theorem SplitByGaps_ok (ik : Ink) (gap : Int) (ok : okInk' ik = true) (hg : -4095 ≤ gap ∧ gap ≤ 4095) : ∃ (ls : List Group) (c : Int), (partsP ik.Strokes gap ls (ik.Strokes.length : Int)) ∧ (c = 0) ∧ ((ls.length : Int) ≤ (ik.Strokes.length : Int)) ∧ Con Try.prog 13 [.agg [slStroke false ik.Strokes], I gap] true (.tup [slGroup true ls, I c]) := by
  have hil := okI_len ok
  have hh : ∃ r : (List Group) × Int, ((partsP ik.Strokes gap r.1 (ik.Strokes.length : Int)) ∧ (r.2 = 0) ∧ ((r.1.length : Int) ≤ (ik.Strokes.length : Int)) ∧ (True)) ∧ CallOK Try.prog 13 [.agg [slStroke false ik.Strokes], I gap] (lookO []) true (.tup [slGroup true r.1, I r.2]) (lookO []) := by
    refine fn_okX (Φ := fun r : (List Group) × Int => (partsP ik.Strokes gap r.1 (ik.Strokes.length : Int)) ∧ (r.2 = 0) ∧ ((r.1.length : Int) ≤ (ik.Strokes.length : Int)) ∧ (True)) [] (fun r => []) (fn := Try.f13) (nt := 47) Try.func13 rfl rfl (args := [.agg [slStroke false ik.Strokes], I gap]) rfl (allcons (.inl ⟨rfl, by simp [tagged, taggedL, tagStroke]⟩) (allcons (.inl ⟨rfl, trivial⟩) allnil)) (res := fun r => .tup [slGroup true r.1, I r.2]) ?_
    refine x_seq ?_
    refine x_reg [(0, .new 2)] [1, 2] [2] [I gap, .ref 2 0] [some (.box [slStroke false ik.Strokes])] [] (by kernel_rfl) trivial ?_
    refine xe_then ?_
    refine x_seq ?_
    refine x_seq ?_
    refine x_reg [(1, .call [(true, .agg [slStroke false ik.Strokes])] true (Bv true))] [1, 2, 11] [2] [I gap, .ref 2 0, Bv false] [some (.box [slStroke false ik.Strokes])] [Con Try.prog 20 [.agg [slStroke false ik.Strokes]] true (Bv true) ∧ ((.agg [slStroke false ik.Strokes] : AV) = .agg [slStroke false ik.Strokes]) ∧ True] (by kernel_rfl) ⟨⟨(con_bool ok (ValidInk_ok ik)), rfl, trivial⟩, trivial⟩ ?_
    refine xe_then ?_
    refine x_false rfl ?_
    refine x_skip ?_
    refine xe_then ?_
    refine x_seq ?_
    refine x_seq ?_
    refine x_reg [(1, .call [(true, I gap), (true, I (-4095)), (true, I 4095)] true (Bv true))] [1, 2, 14] [2] [I gap, .ref 2 0, Bv false] [some (.box [slStroke false ik.Strokes])] [Con Try.prog 30 [I gap, I (-4095), I 4095] true (Bv true) ∧ ((I gap : AV) = I gap) ∧ ((I (-4095) : AV) = I (-4095)) ∧ ((I 4095 : AV) = I 4095) ∧ True] (by kernel_rfl) ⟨⟨(con_bool (inB_iff.2 (by omega)) (within_ok gap (-4095) 4095)), rfl, rfl, rfl, trivial⟩, trivial⟩ ?_
    refine xe_then ?_
    refine x_false rfl ?_
    refine x_skip ?_
    refine xe_then ?_
    refine x_seq ?_
    obtain ⟨order_1, hx1_0, hc1⟩ := orderOf_ok ik ok
    have holn : order_1.length = ik.Strokes.length := by rw [hx1_0, ordL_len]
    refine x_reg [(1, .lend [] [(8301, .arr 1 order_1.length (fI order_1))] [(true, .agg [slStroke false ik.Strokes])] false (.arr 8301))] [1, 2, 6] [2, 8301] [I gap, .ref 2 0, .arr 8301] [some (.box [slStroke false ik.Strokes]), some (.arr 1 order_1.length (fI order_1))] [CallOK Try.prog 21 [.agg [slStroke false ik.Strokes]] (lookO []) false (.arr 8301) (lookO [(8301, .arr 1 order_1.length (fI order_1))]) ∧ ((.agg [slStroke false ik.Strokes] : AV) = .agg [slStroke false ik.Strokes]) ∧ True] (by kernel_rfl) ⟨⟨hc1, rfl, trivial⟩, trivial⟩ ?_
    refine xe_then ?_
    refine x_seq ?_
    refine x_reg [] [1, 2, 6, 7] [2, 8301] [I gap, .ref 2 0, .arr 8301, nilA] [some (.box [slStroke false ik.Strokes]), some (.arr 1 order_1.length (fI order_1))] [] (by kernel_rfl) trivial ?_
    refine xe_then ?_
    refine x_seq ?_
    refine x_seq ?_
    refine x_reg [] [1, 2, 6, 7, 18, 19] [2, 8301] [I gap, .ref 2 0, .arr 8301, nilA, I (order_1.length : Int), I 0] [some (.box [slStroke false ik.Strokes]), some (.arr 1 order_1.length (fI order_1))] [] (by kernel_rfl) trivial ?_
    refine xe_then ?_
    refine x_block ?_
    refine x_nil 7 707 2 (fun _ => []) (by kernel_rfl) ?_
    refine x_weak [] (T := [(1, I gap), (2, .ref 2 0), (6, slI true order_1), (7, .arr 707), (18, I (order_1.length : Int)), (19, I 0)]) (O := [(2, .box [slStroke false ik.Strokes]), (707, .arr 2 (([] : List Group).length) (fGroup ([] : List Group)))]) rfl (⟨.inl rfl, .inl rfl, .inr ⟨(fun _ => rfl), rfl, rfl, fun i _ => .inl rfl⟩, .inl rfl, .inl rfl, .inl rfl, trivial⟩) (⟨.inl rfl, .inr ⟨rfl, (by first | rfl | (simp; done) | (simp; omega) | omega), fun i_ hi_ => absurd hi_ (Nat.not_lt_zero _)⟩, trivial⟩) ?_
    refine x_loop (X := (List Group) × Int) (fun x => mkS [(1, I gap), (2, .ref 2 0), (6, slI true order_1), (7, .arr 707), (18, I (order_1.length : Int)), (19, I x.2)] [(2, .box [slStroke false ik.Strokes]), (707, .arr 2 x.1.length (fGroup x.1))]) (fun x => (0 ≤ x.2 ∧ x.2 ≤ (ik.Strokes.length : Int)) ∧ (partsP ik.Strokes gap x.1 x.2) ∧ ((x.1.length : Int) ≤ x.2 ∧ (0 < x.2 → 1 ≤ x.1.length)) ∧ True) (fun x => ((ik.Strokes.length : Int) - x.2).toNat) (([] : List Group), 0) rfl (show (0 ≤ (0 : Int) ∧ (0 : Int) ≤ (ik.Strokes.length : Int)) ∧ (partsP ik.Strokes gap ([] : List Group) (0 : Int)) ∧ ((([] : List Group).length : Int) ≤ (0 : Int) ∧ (0 < (0 : Int) → 1 ≤ ([] : List Group).length)) ∧ True from ⟨(by omega), (by exact parts_nil _ _), (by exact ⟨by decide, fun h => by omega⟩), trivial⟩) (fun x hI => ?_)
    obtain ⟨ls, t19⟩ := x
    obtain ⟨hi0, hp0, hl0, _⟩ : (0 ≤ t19 ∧ t19 ≤ (ik.Strokes.length : Int)) ∧ (partsP ik.Strokes gap ls t19) ∧ ((ls.length : Int) ≤ t19 ∧ (0 < t19 → 1 ≤ ls.length)) ∧ True := hI
    show XW _ _ _ _ (mkS [(1, I gap), (2, .ref 2 0), (6, slI true order_1), (7, .arr 707), (18, I (order_1.length : Int)), (19, I t19)] [(2, .box [slStroke false ik.Strokes]), (707, .arr 2 ls.length (fGroup ls))]) _ _
    refine x_seq ?_
    by_cases h1 : t19 < (order_1.length : Int)
    ·have hi : t19.toNat < ik.Strokes.length := by omega
     refine x_reg [(0, .dec true)] [1, 2, 6, 7, 18, 19, 20] [2, 707] [I gap, .ref 2 0, slI true order_1, .arr 707, I (order_1.length : Int), I t19, Bv true] [some (.box [slStroke false ik.Strokes]), some (.arr 2 ls.length (fGroup ls))] [t19 < (order_1.length : Int)] (by kernel_rfl) ⟨h1, trivial⟩ ?_
     refine xe_then ?_
     refine x_seq ?_
     refine x_true rfl ?_
     refine x_skip ?_
     refine xe_then ?_
     refine x_seq ?_
     refine x_block ?_
     refine x_seq ?_
     refine x_reg [] [1, 2, 6, 7, 8, 18, 19] [2, 707] [I gap, .ref 2 0, slI true order_1, .arr 707, I t19, I (order_1.length : Int), I t19] [some (.box [slStroke false ik.Strokes]), some (.arr 2 ls.length (fGroup ls))] [] (by kernel_rfl) trivial ?_
     refine xe_then ?_
     refine x_seq ?_
     refine x_seq ?_
     by_cases h2 : t19 = 0
     ·refine x_reg [(1, .dec true)] [1, 2, 6, 7, 8, 18, 19, 31] [2, 707] [I gap, .ref 2 0, slI true order_1, .arr 707, I t19, I (order_1.length : Int), I t19, Bv true] [some (.box [slStroke false ik.Strokes]), some (.arr 2 ls.length (fGroup ls))] [t19 = 0] (by kernel_rfl) ⟨h2, trivial⟩ ?_
      refine xe_then ?_
      refine x_true rfl ?_
      refine x_reg [(3, .new 35), (4, .new 36)] [1, 2, 6, 7, 8, 18, 19] [2, 36] [I gap, .ref 2 0, slI true order_1, .arr 36, I t19, I (order_1.length : Int), I t19] [some (.box [slStroke false ik.Strokes]), some (.arr 2 (ls.length + 1) (catF ls.length (fGroup ls) (litF [I t19, I 0] 2)))] [(ls.length + 1) * 16 ≤ 140737488355328] (by kernel_rfl) ⟨(by omega), trivial⟩ ?_
      refine xe_then ?_
      refine x_weak [] (T := [(1, I gap), (2, .ref 2 0), (6, slI true order_1), (7, .arr 36), (8, I t19), (18, I (order_1.length : Int)), (19, I t19)]) (O := [(2, .box [slStroke false ik.Strokes]), (36, .arr 2 ((ls ++ [(Group.mk t19 0)]).length) (fGroup (ls ++ [(Group.mk t19 0)])))]) rfl (⟨.inl rfl, .inl rfl, .inl rfl, .inl rfl, .inl rfl, .inl rfl, .inl rfl, trivial⟩) (⟨.inl rfl, .inr ⟨rfl, (by first | rfl | (simp; done) | (simp; omega) | omega), fun i_ hi_ => .inl (cat_snoc (enc := cGroup) (xs := ls) rfl i_ hi_)⟩, trivial⟩) ?_
      refine x_reg [] [1, 2, 6, 7, 18, 19] [2, 36] [I gap, .ref 2 0, slI true order_1, .arr 36, I (order_1.length : Int), I t19] [some (.box [slStroke false ik.Strokes]), some (.arr 2 ((ls ++ [(Group.mk t19 0)]).length) (fun q => bif Nat.beq q (((((ls ++ [(Group.mk t19 0)]).length) : Int) - 1).toNat) then [I ((at_ (ls ++ [(Group.mk t19 0)]) (((((ls ++ [(Group.mk t19 0)]).length) : Int) - 1).toNat)).From), I (t19 + 1)] else (fGroup (ls ++ [(Group.mk t19 0)])) q))] [inR .i64 ((((ls ++ [(Group.mk t19 0)]).length) : Int) - 1), inR .i64 (t19 + 1), (0 : Int) ≤ ((((ls ++ [(Group.mk t19 0)]).length) : Int) - 1) ∧ ((((ls ++ [(Group.mk t19 0)]).length) : Int) - 1) < (((ls ++ [(Group.mk t19 0)]).length) : Int), ((((ls ++ [(Group.mk t19 0)]).length) : Int) - 1).toNat < (ls ++ [(Group.mk t19 0)]).length] (by kernel_rfl) ⟨(by simp only [List.length_append, List.length_cons, List.length_nil]; exact inR_i64 (by omega) (by omega)), (inR_i64 (by omega) (by omega)), ⟨(by first | omega | (simp; done) | (simp; omega)), (by first | omega | (simp; done) | (simp; omega))⟩, (by first | omega | (simp; done) | (simp; omega)), trivial⟩ ?_
      refine xe_block 1 ?_
      refine xe_then ?_
      refine x_weak [] (T := [(1, I gap), (2, .ref 2 0), (6, slI true order_1), (7, .arr 36), (18, I (order_1.length : Int)), (19, I t19)]) (O := [(2, .box [slStroke false ik.Strokes]), (36, .arr 2 (((ls ++ [(Group.mk t19 0)]).set (((((ls ++ [(Group.mk t19 0)]).length) : Int) - 1).toNat) (Group.mk ((at_ (ls ++ [(Group.mk t19 0)]) (((((ls ++ [(Group.mk t19 0)]).length) : Int) - 1).toNat)).From) (t19 + 1))).length) (fGroup ((ls ++ [(Group.mk t19 0)]).set (((((ls ++ [(Group.mk t19 0)]).length) : Int) - 1).toNat) (Group.mk ((at_ (ls ++ [(Group.mk t19 0)]) (((((ls ++ [(Group.mk t19 0)]).length) : Int) - 1).toNat)).From) (t19 + 1)))))]) rfl (⟨.inl rfl, .inl rfl, .inl rfl, .inl rfl, .inl rfl, .inl rfl, trivial⟩) (⟨.inl rfl, .inr ⟨rfl, (by first | rfl | (simp; done) | (simp; omega) | omega), fun i_ hi_ => .inl (upd_enc (enc := cGroup) rfl i_ hi_)⟩, trivial⟩) ?_
      refine x_reg [] [1, 2, 6, 7, 18, 19] [2, 36] [I gap, .ref 2 0, slI true order_1, .arr 36, I (order_1.length : Int), I (t19 + 1)] [some (.box [slStroke false ik.Strokes]), some (.arr 2 (((ls ++ [(Group.mk t19 0)]).set (((((ls ++ [(Group.mk t19 0)]).length) : Int) - 1).toNat) (Group.mk ((at_ (ls ++ [(Group.mk t19 0)]) (((((ls ++ [(Group.mk t19 0)]).length) : Int) - 1).toNat)).From) (t19 + 1))).length) (fGroup ((ls ++ [(Group.mk t19 0)]).set (((((ls ++ [(Group.mk t19 0)]).length) : Int) - 1).toNat) (Group.mk ((at_ (ls ++ [(Group.mk t19 0)]) (((((ls ++ [(Group.mk t19 0)]).length) : Int) - 1).toNat)).From) (t19 + 1)))))] [inR .i64 (t19 + 1)] (by kernel_rfl) ⟨(inR_i64 (by omega) (by omega)), trivial⟩ ?_
      refine xe_weak [(707, 36)] (T := [(1, I gap), (2, .ref 2 0), (6, slI true order_1), (7, .arr 707), (18, I (order_1.length : Int)), (19, I (t19 + 1))]) (O := [(2, .box [slStroke false ik.Strokes]), (707, .arr 2 (((ls ++ [(Group.mk t19 0)]).set (((((ls ++ [(Group.mk t19 0)]).length) : Int) - 1).toNat) (Group.mk ((at_ (ls ++ [(Group.mk t19 0)]) (((((ls ++ [(Group.mk t19 0)]).length) : Int) - 1).toNat)).From) (t19 + 1))).length) (fGroup ((ls ++ [(Group.mk t19 0)]).set (((((ls ++ [(Group.mk t19 0)]).length) : Int) - 1).toNat) (Group.mk ((at_ (ls ++ [(Group.mk t19 0)]) (((((ls ++ [(Group.mk t19 0)]).length) : Int) - 1).toNat)).From) (t19 + 1)))))]) rfl (⟨.inl rfl, .inl rfl, .inl rfl, .inl rfl, .inl rfl, .inl rfl, trivial⟩) (⟨.inl rfl, .inl rfl, trivial⟩) (xe_again (((ls ++ [(Group.mk t19 0)]).set (((((ls ++ [(Group.mk t19 0)]).length) : Int) - 1).toNat) (Group.mk ((at_ (ls ++ [(Group.mk t19 0)]) (((((ls ++ [(Group.mk t19 0)]).length) : Int) - 1).toNat)).From) (t19 + 1))), (t19 + 1)) rfl (show (0 ≤ (t19 + 1) ∧ (t19 + 1) ≤ (ik.Strokes.length : Int)) ∧ (partsP ik.Strokes gap ((ls ++ [(Group.mk t19 0)]).set (((((ls ++ [(Group.mk t19 0)]).length) : Int) - 1).toNat) (Group.mk ((at_ (ls ++ [(Group.mk t19 0)]) (((((ls ++ [(Group.mk t19 0)]).length) : Int) - 1).toNat)).From) (t19 + 1))) (t19 + 1)) ∧ ((((ls ++ [(Group.mk t19 0)]).set (((((ls ++ [(Group.mk t19 0)]).length) : Int) - 1).toNat) (Group.mk ((at_ (ls ++ [(Group.mk t19 0)]) (((((ls ++ [(Group.mk t19 0)]).length) : Int) - 1).toNat)).From) (t19 + 1))).length : Int) ≤ (t19 + 1) ∧ (0 < (t19 + 1) → 1 ≤ ((ls ++ [(Group.mk t19 0)]).set (((((ls ++ [(Group.mk t19 0)]).length) : Int) - 1).toNat) (Group.mk ((at_ (ls ++ [(Group.mk t19 0)]) (((((ls ++ [(Group.mk t19 0)]).length) : Int) - 1).toNat)).From) (t19 + 1))).length)) ∧ True from ⟨(by omega), (by first | exact parts_on (by omega) hp0 (by first | rfl | omega | (simp; omega)) rfl | exact parts_new hi0.1 hp0 (by first | (left; omega) | (right; rw [← hx1_0]; omega)) (by first | rfl | omega | (simp; done) | (simp; omega)) rfl rfl), (by simp; omega), trivial⟩) (by show (((ik.Strokes.length : Int) - (t19 + 1)).toNat : Nat) < ((ik.Strokes.length : Int) - t19).toNat; omega))
     ·by_cases h3 : gap ≤ (gapI ik.Strokes order_1 t19.toNat)
      ·refine x_reg [(1, .dec false), (6, .call [(true, .agg [slStroke false ik.Strokes]), (false, slI false order_1), (true, I t19)] true (I (gapI ik.Strokes order_1 t19.toNat))), (8, .dec true)] [1, 2, 6, 7, 8, 18, 19, 31] [2, 707] [I gap, .ref 2 0, slI true order_1, .arr 707, I t19, I (order_1.length : Int), I t19, Bv true] [some (.box [slStroke false ik.Strokes]), some (.arr 2 ls.length (fGroup ls))] [¬ (t19 = 0), Con Try.prog 31 [.agg [slStroke false ik.Strokes], slI false order_1, I t19] true (I (gapI ik.Strokes order_1 t19.toNat)) ∧ ((.agg [slStroke false ik.Strokes] : AV) = .agg [slStroke false ik.Strokes]) ∧ ((false = true → true = true) ∧ 1 = 1 ∧ order_1.length = order_1.length ∧ ∀ i, i < order_1.length → (fI order_1) i = (fI order_1) i ∨ (AV.idsL ((fI order_1) i) = [] ∧ leL (fun _ => none) false ((fI order_1) i) ((fI order_1) i))) ∧ ((I t19 : AV) = I t19) ∧ True, gap ≤ (gapI ik.Strokes order_1 t19.toNat)] (by kernel_rfl) ⟨h2, ⟨(gapAt_ok ik order_1 t19 ok hx1_0 (by omega)), rfl, ⟨(fun h => by cases h), rfl, rfl, fun i _ => .inl rfl⟩, rfl, trivial⟩, h3, trivial⟩ ?_
       refine xe_then ?_
       refine x_true rfl ?_
       refine x_reg [(3, .new 35), (4, .new 36)] [1, 2, 6, 7, 8, 18, 19] [2, 36] [I gap, .ref 2 0, slI true order_1, .arr 36, I t19, I (order_1.length : Int), I t19] [some (.box [slStroke false ik.Strokes]), some (.arr 2 (ls.length + 1) (catF ls.length (fGroup ls) (litF [I t19, I 0] 2)))] [(ls.length + 1) * 16 ≤ 140737488355328] (by kernel_rfl) ⟨(by omega), trivial⟩ ?_
       refine xe_then ?_
       refine x_weak [] (T := [(1, I gap), (2, .ref 2 0), (6, slI true order_1), (7, .arr 36), (8, I t19), (18, I (order_1.length : Int)), (19, I t19)]) (O := [(2, .box [slStroke false ik.Strokes]), (36, .arr 2 ((ls ++ [(Group.mk t19 0)]).length) (fGroup (ls ++ [(Group.mk t19 0)])))]) rfl (⟨.inl rfl, .inl rfl, .inl rfl, .inl rfl, .inl rfl, .inl rfl, .inl rfl, trivial⟩) (⟨.inl rfl, .inr ⟨rfl, (by first | rfl | (simp; done) | (simp; omega) | omega), fun i_ hi_ => .inl (cat_snoc (enc := cGroup) (xs := ls) rfl i_ hi_)⟩, trivial⟩) ?_
       refine x_reg [] [1, 2, 6, 7, 18, 19] [2, 36] [I gap, .ref 2 0, slI true order_1, .arr 36, I (order_1.length : Int), I t19] [some (.box [slStroke false ik.Strokes]), some (.arr 2 ((ls ++ [(Group.mk t19 0)]).length) (fun q => bif Nat.beq q (((((ls ++ [(Group.mk t19 0)]).length) : Int) - 1).toNat) then [I ((at_ (ls ++ [(Group.mk t19 0)]) (((((ls ++ [(Group.mk t19 0)]).length) : Int) - 1).toNat)).From), I (t19 + 1)] else (fGroup (ls ++ [(Group.mk t19 0)])) q))] [inR .i64 ((((ls ++ [(Group.mk t19 0)]).length) : Int) - 1), inR .i64 (t19 + 1), (0 : Int) ≤ ((((ls ++ [(Group.mk t19 0)]).length) : Int) - 1) ∧ ((((ls ++ [(Group.mk t19 0)]).length) : Int) - 1) < (((ls ++ [(Group.mk t19 0)]).length) : Int), ((((ls ++ [(Group.mk t19 0)]).length) : Int) - 1).toNat < (ls ++ [(Group.mk t19 0)]).length] (by kernel_rfl) ⟨(by simp only [List.length_append, List.length_cons, List.length_nil]; exact inR_i64 (by omega) (by omega)), (inR_i64 (by omega) (by omega)), ⟨(by first | omega | (simp; done) | (simp; omega)), (by first | omega | (simp; done) | (simp; omega))⟩, (by first | omega | (simp; done) | (simp; omega)), trivial⟩ ?_
       refine xe_block 1 ?_
       refine xe_then ?_
       refine x_weak [] (T := [(1, I gap), (2, .ref 2 0), (6, slI true order_1), (7, .arr 36), (18, I (order_1.length : Int)), (19, I t19)]) (O := [(2, .box [slStroke false ik.Strokes]), (36, .arr 2 (((ls ++ [(Group.mk t19 0)]).set (((((ls ++ [(Group.mk t19 0)]).length) : Int) - 1).toNat) (Group.mk ((at_ (ls ++ [(Group.mk t19 0)]) (((((ls ++ [(Group.mk t19 0)]).length) : Int) - 1).toNat)).From) (t19 + 1))).length) (fGroup ((ls ++ [(Group.mk t19 0)]).set (((((ls ++ [(Group.mk t19 0)]).length) : Int) - 1).toNat) (Group.mk ((at_ (ls ++ [(Group.mk t19 0)]) (((((ls ++ [(Group.mk t19 0)]).length) : Int) - 1).toNat)).From) (t19 + 1)))))]) rfl (⟨.inl rfl, .inl rfl, .inl rfl, .inl rfl, .inl rfl, .inl rfl, trivial⟩) (⟨.inl rfl, .inr ⟨rfl, (by first | rfl | (simp; done) | (simp; omega) | omega), fun i_ hi_ => .inl (upd_enc (enc := cGroup) rfl i_ hi_)⟩, trivial⟩) ?_
       refine x_reg [] [1, 2, 6, 7, 18, 19] [2, 36] [I gap, .ref 2 0, slI true order_1, .arr 36, I (order_1.length : Int), I (t19 + 1)] [some (.box [slStroke false ik.Strokes]), some (.arr 2 (((ls ++ [(Group.mk t19 0)]).set (((((ls ++ [(Group.mk t19 0)]).length) : Int) - 1).toNat) (Group.mk ((at_ (ls ++ [(Group.mk t19 0)]) (((((ls ++ [(Group.mk t19 0)]).length) : Int) - 1).toNat)).From) (t19 + 1))).length) (fGroup ((ls ++ [(Group.mk t19 0)]).set (((((ls ++ [(Group.mk t19 0)]).length) : Int) - 1).toNat) (Group.mk ((at_ (ls ++ [(Group.mk t19 0)]) (((((ls ++ [(Group.mk t19 0)]).length) : Int) - 1).toNat)).From) (t19 + 1)))))] [inR .i64 (t19 + 1)] (by kernel_rfl) ⟨(inR_i64 (by omega) (by omega)), trivial⟩ ?_
       refine xe_weak [(707, 36)] (T := [(1, I gap), (2, .ref 2 0), (6, slI true order_1), (7, .arr 707), (18, I (order_1.length : Int)), (19, I (t19 + 1))]) (O := [(2, .box [slStroke false ik.Strokes]), (707, .arr 2 (((ls ++ [(Group.mk t19 0)]).set (((((ls ++ [(Group.mk t19 0)]).length) : Int) - 1).toNat) (Group.mk ((at_ (ls ++ [(Group.mk t19 0)]) (((((ls ++ [(Group.mk t19 0)]).length) : Int) - 1).toNat)).From) (t19 + 1))).length) (fGroup ((ls ++ [(Group.mk t19 0)]).set (((((ls ++ [(Group.mk t19 0)]).length) : Int) - 1).toNat) (Group.mk ((at_ (ls ++ [(Group.mk t19 0)]) (((((ls ++ [(Group.mk t19 0)]).length) : Int) - 1).toNat)).From) (t19 + 1)))))]) rfl (⟨.inl rfl, .inl rfl, .inl rfl, .inl rfl, .inl rfl, .inl rfl, trivial⟩) (⟨.inl rfl, .inl rfl, trivial⟩) (xe_again (((ls ++ [(Group.mk t19 0)]).set (((((ls ++ [(Group.mk t19 0)]).length) : Int) - 1).toNat) (Group.mk ((at_ (ls ++ [(Group.mk t19 0)]) (((((ls ++ [(Group.mk t19 0)]).length) : Int) - 1).toNat)).From) (t19 + 1))), (t19 + 1)) rfl (show (0 ≤ (t19 + 1) ∧ (t19 + 1) ≤ (ik.Strokes.length : Int)) ∧ (partsP ik.Strokes gap ((ls ++ [(Group.mk t19 0)]).set (((((ls ++ [(Group.mk t19 0)]).length) : Int) - 1).toNat) (Group.mk ((at_ (ls ++ [(Group.mk t19 0)]) (((((ls ++ [(Group.mk t19 0)]).length) : Int) - 1).toNat)).From) (t19 + 1))) (t19 + 1)) ∧ ((((ls ++ [(Group.mk t19 0)]).set (((((ls ++ [(Group.mk t19 0)]).length) : Int) - 1).toNat) (Group.mk ((at_ (ls ++ [(Group.mk t19 0)]) (((((ls ++ [(Group.mk t19 0)]).length) : Int) - 1).toNat)).From) (t19 + 1))).length : Int) ≤ (t19 + 1) ∧ (0 < (t19 + 1) → 1 ≤ ((ls ++ [(Group.mk t19 0)]).set (((((ls ++ [(Group.mk t19 0)]).length) : Int) - 1).toNat) (Group.mk ((at_ (ls ++ [(Group.mk t19 0)]) (((((ls ++ [(Group.mk t19 0)]).length) : Int) - 1).toNat)).From) (t19 + 1))).length)) ∧ True from ⟨(by omega), (by first | exact parts_on (by omega) hp0 (by first | rfl | omega | (simp; omega)) rfl | exact parts_new hi0.1 hp0 (by first | (left; omega) | (right; rw [← hx1_0]; omega)) (by first | rfl | omega | (simp; done) | (simp; omega)) rfl rfl), (by simp; omega), trivial⟩) (by show (((ik.Strokes.length : Int) - (t19 + 1)).toNat : Nat) < ((ik.Strokes.length : Int) - t19).toNat; omega))
      ·refine x_reg [(1, .dec false), (6, .call [(true, .agg [slStroke false ik.Strokes]), (false, slI false order_1), (true, I t19)] true (I (gapI ik.Strokes order_1 t19.toNat))), (8, .dec false)] [1, 2, 6, 7, 8, 18, 19, 31] [2, 707] [I gap, .ref 2 0, slI true order_1, .arr 707, I t19, I (order_1.length : Int), I t19, Bv false] [some (.box [slStroke false ik.Strokes]), some (.arr 2 ls.length (fGroup ls))] [¬ (t19 = 0), Con Try.prog 31 [.agg [slStroke false ik.Strokes], slI false order_1, I t19] true (I (gapI ik.Strokes order_1 t19.toNat)) ∧ ((.agg [slStroke false ik.Strokes] : AV) = .agg [slStroke false ik.Strokes]) ∧ ((false = true → true = true) ∧ 1 = 1 ∧ order_1.length = order_1.length ∧ ∀ i, i < order_1.length → (fI order_1) i = (fI order_1) i ∨ (AV.idsL ((fI order_1) i) = [] ∧ leL (fun _ => none) false ((fI order_1) i) ((fI order_1) i))) ∧ ((I t19 : AV) = I t19) ∧ True, ¬ (gap ≤ (gapI ik.Strokes order_1 t19.toNat))] (by kernel_rfl) ⟨h2, ⟨(gapAt_ok ik order_1 t19 ok hx1_0 (by omega)), rfl, ⟨(fun h => by cases h), rfl, rfl, fun i _ => .inl rfl⟩, rfl, trivial⟩, h3, trivial⟩ ?_
       refine xe_then ?_
       refine x_false rfl ?_
       refine x_skip ?_
       refine xe_then ?_
       refine x_reg [] [1, 2, 6, 7, 18, 19] [2, 707] [I gap, .ref 2 0, slI true order_1, .arr 707, I (order_1.length : Int), I t19] [some (.box [slStroke false ik.Strokes]), some (.arr 2 ls.length (fun q => bif Nat.beq q (((ls.length : Int) - 1).toNat) then [I ((at_ ls (((ls.length : Int) - 1).toNat)).From), I (t19 + 1)] else (fGroup ls) q))] [inR .i64 ((ls.length : Int) - 1), inR .i64 (t19 + 1), (0 : Int) ≤ ((ls.length : Int) - 1) ∧ ((ls.length : Int) - 1) < (ls.length : Int), ((ls.length : Int) - 1).toNat < ls.length] (by kernel_rfl) ⟨(inR_i64 (by omega) (by omega)), (inR_i64 (by omega) (by omega)), ⟨(by omega), (by omega)⟩, (by omega), trivial⟩ ?_
       refine xe_block 1 ?_
       refine xe_then ?_
       refine x_weak [] (T := [(1, I gap), (2, .ref 2 0), (6, slI true order_1), (7, .arr 707), (18, I (order_1.length : Int)), (19, I t19)]) (O := [(2, .box [slStroke false ik.Strokes]), (707, .arr 2 ((ls.set (((ls.length : Int) - 1).toNat) (Group.mk ((at_ ls (((ls.length : Int) - 1).toNat)).From) (t19 + 1))).length) (fGroup (ls.set (((ls.length : Int) - 1).toNat) (Group.mk ((at_ ls (((ls.length : Int) - 1).toNat)).From) (t19 + 1)))))]) rfl (⟨.inl rfl, .inl rfl, .inl rfl, .inl rfl, .inl rfl, .inl rfl, trivial⟩) (⟨.inl rfl, .inr ⟨rfl, (by first | rfl | (simp; done) | (simp; omega) | omega), fun i_ hi_ => .inl (upd_enc (enc := cGroup) rfl i_ hi_)⟩, trivial⟩) ?_
       refine x_reg [] [1, 2, 6, 7, 18, 19] [2, 707] [I gap, .ref 2 0, slI true order_1, .arr 707, I (order_1.length : Int), I (t19 + 1)] [some (.box [slStroke false ik.Strokes]), some (.arr 2 ((ls.set (((ls.length : Int) - 1).toNat) (Group.mk ((at_ ls (((ls.length : Int) - 1).toNat)).From) (t19 + 1))).length) (fGroup (ls.set (((ls.length : Int) - 1).toNat) (Group.mk ((at_ ls (((ls.length : Int) - 1).toNat)).From) (t19 + 1)))))] [inR .i64 (t19 + 1)] (by kernel_rfl) ⟨(inR_i64 (by omega) (by omega)), trivial⟩ ?_
       exact xe_again ((ls.set (((ls.length : Int) - 1).toNat) (Group.mk ((at_ ls (((ls.length : Int) - 1).toNat)).From) (t19 + 1))), (t19 + 1)) rfl (show (0 ≤ (t19 + 1) ∧ (t19 + 1) ≤ (ik.Strokes.length : Int)) ∧ (partsP ik.Strokes gap (ls.set (((ls.length : Int) - 1).toNat) (Group.mk ((at_ ls (((ls.length : Int) - 1).toNat)).From) (t19 + 1))) (t19 + 1)) ∧ (((ls.set (((ls.length : Int) - 1).toNat) (Group.mk ((at_ ls (((ls.length : Int) - 1).toNat)).From) (t19 + 1))).length : Int) ≤ (t19 + 1) ∧ (0 < (t19 + 1) → 1 ≤ (ls.set (((ls.length : Int) - 1).toNat) (Group.mk ((at_ ls (((ls.length : Int) - 1).toNat)).From) (t19 + 1))).length)) ∧ True from ⟨(by omega), (by first | exact parts_on (by omega) hp0 (by first | rfl | omega | (simp; omega)) rfl | exact parts_new hi0.1 hp0 (by first | (left; omega) | (right; rw [← hx1_0]; omega)) (by first | rfl | omega | (simp; done) | (simp; omega)) rfl rfl), (by simp; omega), trivial⟩) (by show (((ik.Strokes.length : Int) - (t19 + 1)).toNat : Nat) < ((ik.Strokes.length : Int) - t19).toNat; omega)
    ·have hie : t19 = (ik.Strokes.length : Int) := by omega
     refine x_reg [(0, .dec false)] [1, 2, 6, 7, 18, 19, 20] [2, 707] [I gap, .ref 2 0, slI true order_1, .arr 707, I (order_1.length : Int), I t19, Bv false] [some (.box [slStroke false ik.Strokes]), some (.arr 2 ls.length (fGroup ls))] [¬ (t19 < (order_1.length : Int))] (by kernel_rfl) ⟨h1, trivial⟩ ?_
     refine xe_then ?_
     refine x_seq ?_
     refine x_false rfl ?_
     refine x_exit ?_
     refine xe_exit_then ?_
     refine xe_loop_exit ?_
     refine xe_exit_same ?_
     refine xe_then ?_
     refine x_seq ?_
     refine x_reg [] [4, 5] [707] [.arr 707, I 0] [some (.arr 2 ls.length (fGroup ls))] [] (by kernel_rfl) trivial ?_
     refine xe_then ?_
     refine x_ret ?_
     refine xe_end (ls, 0) (show (partsP ik.Strokes gap ls (ik.Strokes.length : Int)) ∧ (0 = 0) ∧ ((ls.length : Int) ≤ (ik.Strokes.length : Int)) ∧ (True) from ⟨(by first | (rw [← hie]; assumption) | rfl | omega), (by first | (rw [← hie]; assumption) | rfl | omega), (by first | (rw [← hie]; assumption) | rfl | omega), trivial⟩) (trivial) (.tup [.arr 707, I 0]) (by kernel_rfl) (.inr ⟨⟨(fun _ => rfl), rfl, rfl, fun i _ => .inl rfl⟩, ⟨rfl, rfl⟩⟩) (fun _ => rfl) (fun _ => (by simp [tagged, taggedL, tagGroup]))
  obtain ⟨⟨ls, c⟩, ⟨hh0, hh1, hh2, _⟩, hc⟩ := hh
  exact ⟨ls, c, hh0, hh1, hh2, hc⟩


-- spec.l00In
theorem l00In_ok (n : Int) (low : Int) (high : Int) : Con Try.prog 33 [I n, I low, I high] true (Bv (inB n low high)) := by
  refine fn_ok (fn := Try.f33) (nt := 15) Try.func33 rfl rfl rfl rfl (by simp [taggedL, tagged]) fun B hB => ?_
  refine aw_seq ?_
  refine aw_reg [] [0, 1, 2] [] [I n, I low, I high] [] [] (by kernel_rfl) hB trivial ?_
  refine ae_then ?_
  refine aw_seq ?_
  by_cases h1 : low ≤ n
  ·refine aw_reg [(2, .dec true)] [6] [] [Bv (decide (n ≤ high))] [] [low ≤ n] (by kernel_rfl) hB ⟨h1, trivial⟩ ?_
   refine ae_then ?_
   refine aw_ret ?_
   refine ae_ret hB (Bv (decide (n ≤ high))) (by kernel_rfl) (.inl (by first | rfl | (refine congrArg Bv ?_; simp [inB, *]; done) | (refine congrArg Bv ?_; simp [inB, *]; omega) | (refine congrArg Bv ?_; simp_all [inB]; done) | (refine congrArg Bv ?_; simp_all [inB]; omega))) rfl (fun _ => trivial)
  ·refine aw_reg [(2, .dec false)] [6] [] [Bv false] [] [¬ (low ≤ n)] (by kernel_rfl) hB ⟨h1, trivial⟩ ?_
   refine ae_then ?_
   refine aw_ret ?_
   refine ae_ret hB (Bv false) (by kernel_rfl) (.inl (by first | rfl | (refine congrArg Bv ?_; simp [inB, *]; done) | (refine congrArg Bv ?_; simp [inB, *]; omega) | (refine congrArg Bv ?_; simp_all [inB]; done) | (refine congrArg Bv ?_; simp_all [inB]; omega))) rfl (fun _ => trivial)


-- spec.l02Point
theorem l02Point_ok (p : Point) : Con Try.prog 58 [agPoint p] true (Bv (okP p)) := by
  refine fn_ok (fn := Try.f58) (nt := 16) Try.func58 rfl rfl rfl rfl (by simp [taggedL, tagged]) fun B hB => ?_
  refine aw_seq ?_
  refine aw_reg [(0, .new 1)] [1] [1] [.ref 1 0] [some (bxPoint p)] [] (by kernel_rfl) hB trivial ?_
  refine ae_then ?_
  refine aw_seq ?_
  rcases Bool.eq_false_or_eq_true (inB p.X 0 4095) with h1 | h1
  ·rcases Bool.eq_false_or_eq_true (inB p.Y 0 4095) with h2 | h2
   ·refine aw_reg [(2, .call [(true, I p.X), (true, I 0), (true, I 4095)] true (Bv true)), (6, .call [(true, I p.Y), (true, I 0), (true, I 4095)] true (Bv true)), (11, .call [(true, I p.T), (true, I 0), (true, I 3600000)] true (Bv (inB p.T 0 3600000)))] [2] [] [Bv (inB p.T 0 3600000)] [] [Con Try.prog 33 [I p.X, I 0, I 4095] true (Bv true) ∧ ((I p.X : AV) = I p.X) ∧ ((I 0 : AV) = I 0) ∧ ((I 4095 : AV) = I 4095) ∧ True, Con Try.prog 33 [I p.Y, I 0, I 4095] true (Bv true) ∧ ((I p.Y : AV) = I p.Y) ∧ ((I 0 : AV) = I 0) ∧ ((I 4095 : AV) = I 4095) ∧ True, Con Try.prog 33 [I p.T, I 0, I 3600000] true (Bv (inB p.T 0 3600000)) ∧ ((I p.T : AV) = I p.T) ∧ ((I 0 : AV) = I 0) ∧ ((I 3600000 : AV) = I 3600000) ∧ True] (by kernel_rfl) hB ⟨⟨(con_bool h1 (l00In_ok p.X 0 4095)), rfl, rfl, rfl, trivial⟩, ⟨(con_bool h2 (l00In_ok p.Y 0 4095)), rfl, rfl, rfl, trivial⟩, ⟨(l00In_ok p.T 0 3600000), rfl, rfl, rfl, trivial⟩, trivial⟩ ?_
    refine ae_then ?_
    refine aw_ret ?_
    refine ae_ret hB (Bv (inB p.T 0 3600000)) (by kernel_rfl) (.inl (by first | rfl | (refine congrArg Bv ?_; simp [okP, *]; done) | (refine congrArg Bv ?_; simp [okP, *]; omega) | (refine congrArg Bv ?_; simp_all [okP]; done) | (refine congrArg Bv ?_; simp_all [okP]; omega))) rfl (fun _ => trivial)
   ·refine aw_reg [(2, .call [(true, I p.X), (true, I 0), (true, I 4095)] true (Bv true)), (6, .call [(true, I p.Y), (true, I 0), (true, I 4095)] true (Bv false))] [2] [] [Bv false] [] [Con Try.prog 33 [I p.X, I 0, I 4095] true (Bv true) ∧ ((I p.X : AV) = I p.X) ∧ ((I 0 : AV) = I 0) ∧ ((I 4095 : AV) = I 4095) ∧ True, Con Try.prog 33 [I p.Y, I 0, I 4095] true (Bv false) ∧ ((I p.Y : AV) = I p.Y) ∧ ((I 0 : AV) = I 0) ∧ ((I 4095 : AV) = I 4095) ∧ True] (by kernel_rfl) hB ⟨⟨(con_bool h1 (l00In_ok p.X 0 4095)), rfl, rfl, rfl, trivial⟩, ⟨(con_bool h2 (l00In_ok p.Y 0 4095)), rfl, rfl, rfl, trivial⟩, trivial⟩ ?_
    refine ae_then ?_
    refine aw_ret ?_
    refine ae_ret hB (Bv false) (by kernel_rfl) (.inl (by first | rfl | (refine congrArg Bv ?_; simp [okP, *]; done) | (refine congrArg Bv ?_; simp [okP, *]; omega) | (refine congrArg Bv ?_; simp_all [okP]; done) | (refine congrArg Bv ?_; simp_all [okP]; omega))) rfl (fun _ => trivial)
  ·refine aw_reg [(2, .call [(true, I p.X), (true, I 0), (true, I 4095)] true (Bv false))] [2] [] [Bv false] [] [Con Try.prog 33 [I p.X, I 0, I 4095] true (Bv false) ∧ ((I p.X : AV) = I p.X) ∧ ((I 0 : AV) = I 0) ∧ ((I 4095 : AV) = I 4095) ∧ True] (by kernel_rfl) hB ⟨⟨(con_bool h1 (l00In_ok p.X 0 4095)), rfl, rfl, rfl, trivial⟩, trivial⟩ ?_
   refine ae_then ?_
   refine aw_ret ?_
   refine ae_ret hB (Bv false) (by kernel_rfl) (.inl (by first | rfl | (refine congrArg Bv ?_; simp [okP, *]; done) | (refine congrArg Bv ?_; simp [okP, *]; omega) | (refine congrArg Bv ?_; simp_all [okP]; done) | (refine congrArg Bv ?_; simp_all [okP]; omega))) rfl (fun _ => trivial)


-- spec.l02Stroke
theorem l02Stroke_ok (s : Stroke) : Con Try.prog 46 [.ptr false [slPoint false s.Points]] true (Bv (okStroke' s)) := by
  refine fn_ok (fn := Try.f46) (nt := 52) Try.func46 rfl rfl rfl rfl (by simp [taggedL, tagged, tagPoint]) fun B hB => ?_
  refine aw_lens (x := .ptr false [slPoint false s.Points]) 0 rfl (fun len_s => ?_)
  simp [LenOK, LenL, cPoint, fPoint, slPoint] at len_s
  refine aw_seq ?_
  refine aw_reg [] [0] [] [.ptr false [slPoint false s.Points]] [] [] (by kernel_rfl) hB trivial ?_
  refine ae_then ?_
  refine aw_seq ?_
  refine aw_seq ?_
  refine aw_reg [] [0, 3] [] [.ptr false [slPoint false s.Points], I 0] [] [] (by kernel_rfl) hB trivial ?_
  refine ae_then ?_
  refine aw_block ?_
  refine aw_loop (fun gn gσ => ∃ (i : Int), gn = ((s.Points.length : Int) - i).toNat ∧ (0 ≤ i ∧ i ≤ (s.Points.length : Int)) ∧ (∀ j : Nat, (j : Int) < i → okPt s.Points j = true) ∧ gσ = mkS [(0, .ptr false [slPoint false s.Points]), (3, I i)] []) (((s.Points.length : Int) - 0).toNat) ⟨0, rfl, (by omega), (by intro j hj; omega), rfl⟩ (fun gn gσ hI => ?_)
  obtain ⟨i, rfl, hi0, hall0, rfl⟩ := hI
  refine aw_seq ?_
  refine aw_seq ?_
  by_cases h1 : i < (s.Points.length : Int)
  ·have hi : i.toNat < s.Points.length := by omega
   refine aw_reg [(6, .dec true)] [0, 3, 10] [] [.ptr false [slPoint false s.Points], I i, Bv true] [] [i < (s.Points.length : Int)] (by kernel_rfl) hB ⟨h1, trivial⟩ ?_
   refine ae_then ?_
   refine aw_true rfl ?_
   refine aw_skip ?_
   refine ae_then ?_
   refine aw_seq ?_
   refine aw_block ?_
   refine aw_seq ?_
   rcases Bool.eq_false_or_eq_true (okP (at_ s.Points i.toNat)) with h2 | h2
   ·by_cases h3 : 0 < i
    ·by_cases h4 : ((at_ s.Points i.toNat).T) ≤ ((at_ s.Points ((i - 1).toNat)).T)
     ·have hall : allN s.Points.length (okPt s.Points) = false := allN_not hi (okPt_no h3 h4)
      refine aw_reg [(7, .call [(true, agPoint (at_ s.Points i.toNat))] true (Bv true)), (11, .dec true), (30, .dec true)] [0, 3, 45] [] [.ptr false [slPoint false s.Points], I i, Bv true] [] [(0 : Int) ≤ i ∧ i < (s.Points.length : Int), Con Try.prog 58 [agPoint (at_ s.Points i.toNat)] true (Bv true) ∧ ((agPoint (at_ s.Points i.toNat) : AV) = agPoint (at_ s.Points i.toNat)) ∧ True, 0 < i, (0 : Int) ≤ i ∧ i < (s.Points.length : Int), inR .i64 (i - 1), (0 : Int) ≤ (i - 1) ∧ (i - 1) < (s.Points.length : Int), ((at_ s.Points i.toNat).T) ≤ ((at_ s.Points ((i - 1).toNat)).T)] (by kernel_rfl) hB ⟨⟨(by omega), (by omega)⟩, ⟨(con_bool h2 (l02Point_ok (at_ s.Points i.toNat))), rfl, trivial⟩, h3, ⟨(by omega), (by omega)⟩, (inR_i64 (by omega) (by omega)), ⟨(by omega), (by omega)⟩, h4, trivial⟩ ?_
      refine ae_then ?_
      refine aw_true rfl ?_
      refine aw_seq ?_
      refine aw_reg [] [2] [] [Bv false] [] [] (by kernel_rfl) hB trivial ?_
      refine ae_then ?_
      refine aw_ret ?_
      refine ae_ret_block (ae_ret_then (ae_ret_then (ae_ret_block (ae_ret_then ?_))))
      refine ae_ret hB (Bv false) (by kernel_rfl) (.inl (by first | rfl | (refine congrArg Bv ?_; simp [okStroke', inB, *]; done) | (refine congrArg Bv ?_; simp [okStroke', inB, *]; omega) | (refine congrArg Bv ?_; simp_all [okStroke', inB]; done) | (refine congrArg Bv ?_; simp_all [okStroke', inB]; omega))) rfl (fun _ => trivial)
     ·have hok := okPt_yes h2 h3 h4
      refine aw_reg [(7, .call [(true, agPoint (at_ s.Points i.toNat))] true (Bv true)), (11, .dec true), (30, .dec false)] [0, 3, 45] [] [.ptr false [slPoint false s.Points], I i, Bv false] [] [(0 : Int) ≤ i ∧ i < (s.Points.length : Int), Con Try.prog 58 [agPoint (at_ s.Points i.toNat)] true (Bv true) ∧ ((agPoint (at_ s.Points i.toNat) : AV) = agPoint (at_ s.Points i.toNat)) ∧ True, 0 < i, (0 : Int) ≤ i ∧ i < (s.Points.length : Int), inR .i64 (i - 1), (0 : Int) ≤ (i - 1) ∧ (i - 1) < (s.Points.length : Int), ¬ (((at_ s.Points i.toNat).T) ≤ ((at_ s.Points ((i - 1).toNat)).T))] (by kernel_rfl) hB ⟨⟨(by omega), (by omega)⟩, ⟨(con_bool h2 (l02Point_ok (at_ s.Points i.toNat))), rfl, trivial⟩, h3, ⟨(by omega), (by omega)⟩, (inR_i64 (by omega) (by omega)), ⟨(by omega), (by omega)⟩, h4, trivial⟩ ?_
      refine ae_then ?_
      refine aw_false rfl ?_
      refine aw_skip ?_
      refine ae_block 1 ?_
      refine ae_then ?_
      refine aw_reg [] [0, 3] [] [.ptr false [slPoint false s.Points], I (i + 1)] [] [inR .i64 (i + 1)] (by kernel_rfl) hB ⟨(inR_i64 (by omega) (by omega)), trivial⟩ ?_
      exact ae_again _ (by omega) ⟨(i + 1), rfl, (by omega), (by intro j hj; by_cases ej : j = i.toNat; (subst ej; first | assumption | exact hok); exact hall0 j (by omega)), rfl⟩
    ·have hok := okPt_zero h2 hi0.1 h3
     refine aw_reg [(7, .call [(true, agPoint (at_ s.Points i.toNat))] true (Bv true)), (11, .dec false)] [0, 3, 45] [] [.ptr false [slPoint false s.Points], I i, Bv false] [] [(0 : Int) ≤ i ∧ i < (s.Points.length : Int), Con Try.prog 58 [agPoint (at_ s.Points i.toNat)] true (Bv true) ∧ ((agPoint (at_ s.Points i.toNat) : AV) = agPoint (at_ s.Points i.toNat)) ∧ True, ¬ (0 < i)] (by kernel_rfl) hB ⟨⟨(by omega), (by omega)⟩, ⟨(con_bool h2 (l02Point_ok (at_ s.Points i.toNat))), rfl, trivial⟩, h3, trivial⟩ ?_
     refine ae_then ?_
     refine aw_false rfl ?_
     refine aw_skip ?_
     refine ae_block 1 ?_
     refine ae_then ?_
     refine aw_reg [] [0, 3] [] [.ptr false [slPoint false s.Points], I (i + 1)] [] [inR .i64 (i + 1)] (by kernel_rfl) hB ⟨(inR_i64 (by omega) (by omega)), trivial⟩ ?_
     exact ae_again _ (by omega) ⟨(i + 1), rfl, (by omega), (by intro j hj; by_cases ej : j = i.toNat; (subst ej; first | assumption | exact hok); exact hall0 j (by omega)), rfl⟩
   ·have hall : allN s.Points.length (okPt s.Points) = false := allN_not hi (okPt_bad h2)
    refine aw_reg [(7, .call [(true, agPoint (at_ s.Points i.toNat))] true (Bv false))] [0, 3, 45] [] [.ptr false [slPoint false s.Points], I i, Bv true] [] [(0 : Int) ≤ i ∧ i < (s.Points.length : Int), Con Try.prog 58 [agPoint (at_ s.Points i.toNat)] true (Bv false) ∧ ((agPoint (at_ s.Points i.toNat) : AV) = agPoint (at_ s.Points i.toNat)) ∧ True] (by kernel_rfl) hB ⟨⟨(by omega), (by omega)⟩, ⟨(con_bool h2 (l02Point_ok (at_ s.Points i.toNat))), rfl, trivial⟩, trivial⟩ ?_
    refine ae_then ?_
    refine aw_true rfl ?_
    refine aw_seq ?_
    refine aw_reg [] [2] [] [Bv false] [] [] (by kernel_rfl) hB trivial ?_
    refine ae_then ?_
    refine aw_ret ?_
    refine ae_ret_block (ae_ret_then (ae_ret_then (ae_ret_block (ae_ret_then ?_))))
    refine ae_ret hB (Bv false) (by kernel_rfl) (.inl (by first | rfl | (refine congrArg Bv ?_; simp [okStroke', inB, *]; done) | (refine congrArg Bv ?_; simp [okStroke', inB, *]; omega) | (refine congrArg Bv ?_; simp_all [okStroke', inB]; done) | (refine congrArg Bv ?_; simp_all [okStroke', inB]; omega))) rfl (fun _ => trivial)
  ·have hall : allN s.Points.length (okPt s.Points) = true := allN_at (fun j hj => hall0 j (by omega))
   refine aw_reg [(6, .dec false)] [0, 3, 10] [] [.ptr false [slPoint false s.Points], I i, Bv false] [] [¬ (i < (s.Points.length : Int))] (by kernel_rfl) hB ⟨h1, trivial⟩ ?_
   refine ae_then ?_
   refine aw_false rfl ?_
   refine aw_exit ?_
   refine ae_exit_then ?_
   refine ae_exit_then ?_
   refine ae_exit_same ?_
   refine ae_then ?_
   refine aw_seq ?_
   refine aw_reg [(5, .call [(true, I (s.Points.length : Int)), (true, I 1), (true, I 60)] true (Bv (inB (s.Points.length : Int) 1 60)))] [2] [] [Bv (inB (s.Points.length : Int) 1 60)] [] [Con Try.prog 33 [I (s.Points.length : Int), I 1, I 60] true (Bv (inB (s.Points.length : Int) 1 60)) ∧ ((I (s.Points.length : Int) : AV) = I (s.Points.length : Int)) ∧ ((I 1 : AV) = I 1) ∧ ((I 60 : AV) = I 60) ∧ True] (by kernel_rfl) hB ⟨⟨(l00In_ok (s.Points.length : Int) 1 60), rfl, rfl, rfl, trivial⟩, trivial⟩ ?_
   refine ae_then ?_
   refine aw_ret ?_
   refine ae_ret hB (Bv (inB (s.Points.length : Int) 1 60)) (by kernel_rfl) (.inl (by first | rfl | (refine congrArg Bv ?_; simp [okStroke', inB, *]; done) | (refine congrArg Bv ?_; simp [okStroke', inB, *]; omega) | (refine congrArg Bv ?_; simp_all [okStroke', inB]; done) | (refine congrArg Bv ?_; simp_all [okStroke', inB]; omega))) rfl (fun _ => trivial)

end Go.Proofs.Ytglpfinmioppcaa.Ax
