/- The statement FnGuesses: contracts of what it reaches, and its proof. No conditions. -/
import Derived.Test.YtinncgigkiclpaaGreatAxLGuesses3
import Derived.Lib.IndexBytes
import Derived.Lib.ItoaNum
import Derived.Lib.ParseIntBCases
import Derived.Lib.SplitLaws
import Derived.Test.YtinncgigkiclpaaGreatAxR
import Derived.Test.YtinncgigkiclpaaGreatAxS
import Derived.Test.YtinncgigkiclpaaGreatAxY
namespace Go.Proofs.YtinncgigkiclpaaGreat.Ax
open Go.RowKit Go.ChangeShapes Go.WideShapes
set_option linter.unusedVariables false
set_option linter.unusedSimpArgs false


-- impl.HypsOf
theorem HypsOf_ok (s : Store) (ik : Ink) (t : Setting) (hst : okStore' s = true) (ok : okInk' ik = true) (hset : okSet t = true) (h12 : s.Templates.length ≤ 12) (h72 : 1 ≤ ik.Strokes.length → (ik.Strokes.length : Int) * t.Points ≤ 72) (oks_ : okStore s) : ∃ (v : List Hyp) (c : Int), (v = (hkR s ik t).1) ∧ (c = (hkR s ik t).2) ∧ Con Tryz.prog 7 [agStore s, .agg [slStroke false ik.Strokes], agSetting t] true (.tup [slHyp true v, I c]) := by
  have hil := okI_len ok
  have hse := okSet_iff.1 hset
  have hs40 := (okStore_iff.1 hst).2.1
  have hp1 : (ik.Strokes.length : Int) * t.Points ≤ 16 * 24 := Int.mul_le_mul (by omega) (by omega) (by omega) (by omega)
  have hp0 : 0 ≤ (ik.Strokes.length : Int) * t.Points := Int.mul_nonneg (by omega) (by omega)
  have hh : ∃ r : (List Hyp) × Int, ((r.1 = (hkR s ik t).1) ∧ (r.2 = (hkR s ik t).2) ∧ (True)) ∧ CallOK Tryz.prog 7 [agStore s, .agg [slStroke false ik.Strokes], agSetting t] (lookO []) true (.tup [slHyp true r.1, I r.2]) (lookO []) := by
    refine fn_okX (Φ := fun r : (List Hyp) × Int => (r.1 = (hkR s ik t).1) ∧ (r.2 = (hkR s ik t).2) ∧ (True)) [] (fun r => []) (fn := Tryz.f7) (nt := 39) Tryz.func7 rfl rfl (args := [agStore s, .agg [slStroke false ik.Strokes], agSetting t]) rfl (allcons (.inl ⟨rfl, by simp [tagged, taggedL, tagTemplate]⟩) (allcons (.inl ⟨rfl, by simp [tagged, taggedL, tagStroke]⟩) (allcons (.inl ⟨rfl, by simp [tagged, taggedL]⟩) allnil))) (res := fun r => .tup [slHyp true r.1, I r.2]) ?_
    refine xR [(0, .new 3), (1, .new 4), (2, .new 5)] [3, 4, 5] [3, 4, 5] [.ref 3 0, .ref 4 0, .ref 5 0] [some (bxStore s), some (.box [slStroke false ik.Strokes]), some (bxSetting t)] [] trivial ?_
    refine x_seq ?_
    refine x_block ?_
    refine xR [(1, .call [(true, .any)] true (Bv true)), (5, .call [(true, .any)] true (Bv true)), (10, .call [(true, .any)] true (Bv true))] [3, 4, 5, 8] [3, 4, 5] [.ref 3 0, .ref 4 0, .ref 5 0, Bv false] [some (bxStore s), some (.box [slStroke false ik.Strokes]), some (bxSetting t)] [Con Tryz.prog 19 [agStore s] true (Bv true) ∧ True, Con Tryz.prog 20 [.agg [slStroke false ik.Strokes]] true (Bv true) ∧ True, Con Tryz.prog 21 [agSetting t] true (Bv true) ∧ True] ⟨⟨(con_bool hst (ValidStore_ok s oks_)), trivial⟩, ⟨(con_bool ok (ValidInk_ok ik)), trivial⟩, ⟨(con_bool hset (ValidSetting_ok t)), trivial⟩, trivial⟩ ?_
    refine x_false rfl ?_
    refine x_seq ?_
    by_cases h1 : (ik.Strokes.length : Int) = 0
    ·have hst2 : hkR s ik t = ([], 6) := if_pos h1
     refine x_r [(3, .dec true)] [3, 4, 5, 22] [3, 4, 5] [.ref 3 0, .ref 4 0, .ref 5 0, Bv true] [some (bxStore s), some (.box [slStroke false ik.Strokes]), some (bxSetting t)] [(ik.Strokes.length : Int) = 0] ⟨h1, trivial⟩ ?_
     refine xe_then ?_
     refine x_true rfl ?_
     refine xR [] [6, 7] [] [nilA, I 6] [] [] trivial ?_
     refine x_ret ?_
     refine xe_ret_block (xe_ret_then ?_)
     refine xe_end (([] : List Hyp), 6) (show (([] : List Hyp) = (hkR s ik t).1) ∧ (6 = (hkR s ik t).2) ∧ (True) from ⟨(by first | (rw [hst2]; done) | (rw [hst2]; assumption)), (by first | (rw [hst2]; done) | (rw [hst2]; assumption)), trivial⟩) (trivial) (.tup [nilA, I 6]) (by kernel_rfl) (.inr ⟨⟨rfl, rfl⟩, ⟨rfl, rfl⟩⟩) (fun _ => rfl) (fun _ => (by simp [tagged, taggedL, tagHyp]))
    have hst2 : hkR s ik t = (recR s ik t, 0) := if_neg h1
    have hsk : 1 ≤ ik.Strokes.length := by omega
    have hpq : 0 ≤ (ik.Strokes.length : Int) * t.Points := Int.mul_nonneg (by omega) (by omega)
    refine x_r [(3, .dec false)] [3, 4, 5, 22] [3, 4, 5] [.ref 3 0, .ref 4 0, .ref 5 0, Bv false] [some (bxStore s), some (.box [slStroke false ik.Strokes]), some (bxSetting t)] [¬ ((ik.Strokes.length : Int) = 0)] ⟨h1, trivial⟩ ?_
    refine xe_then ?_
    refine x_false rfl ?_
    refine xR [(6, .dec false)] [3, 4, 5, 27] [3, 4, 5] [.ref 3 0, .ref 4 0, .ref 5 0, Bv false] [some (bxStore s), some (.box [slStroke false ik.Strokes]), some (bxSetting t)] [inR .i64 ((ik.Strokes.length : Int) * t.Points), ¬ (72 < ((ik.Strokes.length : Int) * t.Points))] ⟨(inR_i64 (by omega) (by omega)), (by have := h72 hsk; omega), trivial⟩ ?_
    refine x_false rfl ?_
    refine x_skip ?_
    refine xe_block 0 ?_
    refine xe_then ?_
    refine x_seq ?_
    obtain ⟨v_1, hx1_0, hc1⟩ := recognized_ok s ik t hst ok hset h12 hsk (h72 hsk)
    refine x_r [(3, .call [(true, .any), (true, .any), (true, .any)] true (slHyp true v_1))] [6, 7] [] [slHyp true v_1, I 0] [] [Con Tryz.prog 22 [agStore s, .agg [slStroke false ik.Strokes], agSetting t] true (slHyp true v_1) ∧ True] ⟨⟨hc1, trivial⟩, trivial⟩ ?_
    refine xe_then ?_
    refine x_ret ?_
    refine xe_end (v_1, 0) (show (v_1 = (hkR s ik t).1) ∧ (0 = (hkR s ik t).2) ∧ (True) from ⟨(by first | (rw [hst2]; done) | (rw [hst2]; assumption)), (by first | (rw [hst2]; done) | (rw [hst2]; assumption)), trivial⟩) (trivial) (.tup [slHyp true v_1, I 0]) (by kernel_rfl) (.inl rfl) (fun _ => rfl) (fun _ => (by simp [tagged, taggedL, tagHyp]))
  obtain ⟨⟨v, c⟩, ⟨hh0, hh1, _⟩, hc⟩ := hh
  exact ⟨v, c, hh0, hh1, hc⟩



-- spec.l00In
theorem l00In_ok (n : Int) (low : Int) (high : Int) : Con Tryz.prog 24 [I n, I low, I high] true (Bv (inB n low high)) := by
  refine fn_ok (fn := Tryz.f24) (nt := 15) Tryz.func24 rfl rfl rfl rfl (by simp [taggedL, tagged]) fun B hB => ?_
  refine aR [] [0, 1, 2] [] [I n, I low, I high] [] [] hB trivial ?_
  refine aw_seq ?_
  by_cases h1 : low ≤ n
  ·refine aw_r [(2, .dec true)] [6] [] [Bv (decide (n ≤ high))] [] [low ≤ n] hB ⟨h1, trivial⟩ ?_
   refine ae_then ?_
   refine aw_ret ?_
   refine ae_ret hB (Bv (decide (n ≤ high))) (by kernel_rfl) (.inl (by first | rfl | (refine congrArg Bv ?_; simp [inB, *]; done) | (refine congrArg Bv ?_; simp [inB, *]; omega) | (refine congrArg Bv ?_; simp_all [inB]; done) | (refine congrArg Bv ?_; simp_all [inB]; omega))) rfl (fun _ => trivial)
  refine aw_r [(2, .dec false)] [6] [] [Bv false] [] [¬ (low ≤ n)] hB ⟨h1, trivial⟩ ?_
  refine ae_then ?_
  refine aw_ret ?_
  refine ae_ret hB (Bv false) (by kernel_rfl) (.inl (by first | rfl | (refine congrArg Bv ?_; simp [inB, *]; done) | (refine congrArg Bv ?_; simp [inB, *]; omega) | (refine congrArg Bv ?_; simp_all [inB]; done) | (refine congrArg Bv ?_; simp_all [inB]; omega))) rfl (fun _ => trivial)



-- spec.l02Point
theorem l02Point_ok (p : Point) : Con Tryz.prog 92 [agPoint p] true (Bv (okP p)) := by
  refine fn_ok (fn := Tryz.f92) (nt := 16) Tryz.func92 rfl rfl rfl rfl (by simp [taggedL, tagged]) fun B hB => ?_
  refine aR [(0, .new 1)] [1] [1] [.ref 1 0] [some (bxPoint p)] [] hB trivial ?_
  refine aw_seq ?_
  rcases Bool.eq_false_or_eq_true (inB p.X 0 4095) with h1 | h1
  ·rcases Bool.eq_false_or_eq_true (inB p.Y 0 4095) with h2 | h2
   ·refine aw_r [(2, .call [(true, .any), (true, .any), (true, .any)] true (Bv true)), (6, .call [(true, .any), (true, .any), (true, .any)] true (Bv true)), (11, .call [(true, .any), (true, .any), (true, .any)] true (Bv (inB p.T 0 3600000)))] [2] [] [Bv (inB p.T 0 3600000)] [] [Con Tryz.prog 24 [I p.X, I 0, I 4095] true (Bv true) ∧ True, Con Tryz.prog 24 [I p.Y, I 0, I 4095] true (Bv true) ∧ True, Con Tryz.prog 24 [I p.T, I 0, I 3600000] true (Bv (inB p.T 0 3600000)) ∧ True] hB ⟨⟨(con_bool h1 (l00In_ok p.X 0 4095)), trivial⟩, ⟨(con_bool h2 (l00In_ok p.Y 0 4095)), trivial⟩, ⟨(l00In_ok p.T 0 3600000), trivial⟩, trivial⟩ ?_
    refine ae_then ?_
    refine aw_ret ?_
    refine ae_ret hB (Bv (inB p.T 0 3600000)) (by kernel_rfl) (.inl (by first | rfl | (refine congrArg Bv ?_; simp [okP, *]; done) | (refine congrArg Bv ?_; simp [okP, *]; omega) | (refine congrArg Bv ?_; simp_all [okP]; done) | (refine congrArg Bv ?_; simp_all [okP]; omega))) rfl (fun _ => trivial)
   refine aw_r [(2, .call [(true, .any), (true, .any), (true, .any)] true (Bv true)), (6, .call [(true, .any), (true, .any), (true, .any)] true (Bv false))] [2] [] [Bv false] [] [Con Tryz.prog 24 [I p.X, I 0, I 4095] true (Bv true) ∧ True, Con Tryz.prog 24 [I p.Y, I 0, I 4095] true (Bv false) ∧ True] hB ⟨⟨(con_bool h1 (l00In_ok p.X 0 4095)), trivial⟩, ⟨(con_bool h2 (l00In_ok p.Y 0 4095)), trivial⟩, trivial⟩ ?_
   refine ae_then ?_
   refine aw_ret ?_
   refine ae_ret hB (Bv false) (by kernel_rfl) (.inl (by first | rfl | (refine congrArg Bv ?_; simp [okP, *]; done) | (refine congrArg Bv ?_; simp [okP, *]; omega) | (refine congrArg Bv ?_; simp_all [okP]; done) | (refine congrArg Bv ?_; simp_all [okP]; omega))) rfl (fun _ => trivial)
  refine aw_r [(2, .call [(true, .any), (true, .any), (true, .any)] true (Bv false))] [2] [] [Bv false] [] [Con Tryz.prog 24 [I p.X, I 0, I 4095] true (Bv false) ∧ True] hB ⟨⟨(con_bool h1 (l00In_ok p.X 0 4095)), trivial⟩, trivial⟩ ?_
  refine ae_then ?_
  refine aw_ret ?_
  refine ae_ret hB (Bv false) (by kernel_rfl) (.inl (by first | rfl | (refine congrArg Bv ?_; simp [okP, *]; done) | (refine congrArg Bv ?_; simp [okP, *]; omega) | (refine congrArg Bv ?_; simp_all [okP]; done) | (refine congrArg Bv ?_; simp_all [okP]; omega))) rfl (fun _ => trivial)



-- spec.l02Stroke
theorem l02Stroke_ok (s : Stroke) : Con Tryz.prog 53 [.ptr false [slPoint false s.Points]] true (Bv (okStroke' s)) := by
  refine fn_ok (fn := Tryz.f53) (nt := 52) Tryz.func53 rfl rfl rfl rfl (by simp [taggedL, tagged, tagPoint]) fun B hB => ?_
  refine aw_lens (x := .ptr false [slPoint false s.Points]) 0 rfl (fun len_s => ?_)
  simp [LenOK, LenL, cPoint, fPoint, slPoint] at len_s
  refine aR [] [0] [] [.ptr false [slPoint false s.Points]] [] [] hB trivial ?_
  refine aw_seq ?_
  refine aR [] [0, 3] [] [.ptr false [slPoint false s.Points], I 0] [] [] hB trivial ?_
  refine aw_block ?_
  refine aw_loop (fun gn gσ => ∃ (i : Int), gn = ((s.Points.length : Int) - i).toNat ∧ (0 ≤ i ∧ i ≤ (s.Points.length : Int)) ∧ (∀ j : Nat, (j : Int) < i → okPt s.Points j = true) ∧ gσ = mkS [(0, .ptr false [slPoint false s.Points]), (3, I i)] []) (((s.Points.length : Int) - 0).toNat) ⟨0, rfl, (by omega), (by intro j hj; omega), rfl⟩ (fun gn gσ hI => ?_)
  obtain ⟨i, rfl, hi0, hall0, rfl⟩ := hI
  refine aw_seq ?_
  refine aw_seq ?_
  by_cases h1 : i < (s.Points.length : Int)
  ·have hi : i.toNat < s.Points.length := by omega
   refine aw_r [(6, .dec true)] [0, 3, 10] [] [.ptr false [slPoint false s.Points], I i, Bv true] [] [i < (s.Points.length : Int)] hB ⟨h1, trivial⟩ ?_
   refine ae_then ?_
   refine aw_true rfl ?_
   refine aw_skip ?_
   refine ae_then ?_
   refine aw_seq ?_
   refine aw_block ?_
   refine aw_seq ?_
   rcases Bool.eq_false_or_eq_true (okP (at_ s.Points i.toNat)) with h2 | h2
   ·by_cases h3 : 0 < i
    ·by_cases h4 : ((at_ s.Points i.toNat).T) ≤ ((at_ s.Points ((i - 1).toNat)).T)
     ·have hall : allN s.Points.length (okPt s.Points) = false := allN_not hi (okPt_no h3 h4)
      refine aw_r [(7, .call [(true, .any)] true (Bv true)), (11, .dec true), (30, .dec true)] [0, 3, 45] [] [.ptr false [slPoint false s.Points], I i, Bv true] [] [(0 : Int) ≤ i ∧ i < (s.Points.length : Int), Con Tryz.prog 92 [agPoint (at_ s.Points i.toNat)] true (Bv true) ∧ True, 0 < i, (0 : Int) ≤ i ∧ i < (s.Points.length : Int), inR .i64 (i - 1), (0 : Int) ≤ (i - 1) ∧ (i - 1) < (s.Points.length : Int), ((at_ s.Points i.toNat).T) ≤ ((at_ s.Points ((i - 1).toNat)).T)] hB ⟨⟨(by omega), (by omega)⟩, ⟨(con_bool h2 (l02Point_ok (at_ s.Points i.toNat))), trivial⟩, h3, ⟨(by omega), (by omega)⟩, (inR_i64 (by omega) (by omega)), ⟨(by omega), (by omega)⟩, h4, trivial⟩ ?_
      refine ae_then ?_
      refine aw_true rfl ?_
      refine aR [] [2] [] [Bv false] [] [] hB trivial ?_
      refine aw_ret ?_
      refine ae_ret_block (ae_ret_then (ae_ret_then (ae_ret_block (ae_ret_then ?_))))
      refine ae_ret hB (Bv false) (by kernel_rfl) (.inl (by first | rfl | (refine congrArg Bv ?_; simp [okStroke', inB, *]; done) | (refine congrArg Bv ?_; simp [okStroke', inB, *]; omega) | (refine congrArg Bv ?_; simp_all [okStroke', inB]; done) | (refine congrArg Bv ?_; simp_all [okStroke', inB]; omega))) rfl (fun _ => trivial)
     have hok := okPt_yes h2 h3 h4
     refine aw_r [(7, .call [(true, .any)] true (Bv true)), (11, .dec true), (30, .dec false)] [0, 3, 45] [] [.ptr false [slPoint false s.Points], I i, Bv false] [] [(0 : Int) ≤ i ∧ i < (s.Points.length : Int), Con Tryz.prog 92 [agPoint (at_ s.Points i.toNat)] true (Bv true) ∧ True, 0 < i, (0 : Int) ≤ i ∧ i < (s.Points.length : Int), inR .i64 (i - 1), (0 : Int) ≤ (i - 1) ∧ (i - 1) < (s.Points.length : Int), ¬ (((at_ s.Points i.toNat).T) ≤ ((at_ s.Points ((i - 1).toNat)).T))] hB ⟨⟨(by omega), (by omega)⟩, ⟨(con_bool h2 (l02Point_ok (at_ s.Points i.toNat))), trivial⟩, h3, ⟨(by omega), (by omega)⟩, (inR_i64 (by omega) (by omega)), ⟨(by omega), (by omega)⟩, h4, trivial⟩ ?_
     refine ae_then ?_
     refine aw_false rfl ?_
     refine aw_skip ?_
     refine ae_block 1 ?_
     refine ae_then ?_
     refine aw_r [] [0, 3] [] [.ptr false [slPoint false s.Points], I (i + 1)] [] [inR .i64 (i + 1)] hB ⟨(inR_i64 (by omega) (by omega)), trivial⟩ ?_
     exact ae_again _ (by omega) ⟨(i + 1), rfl, (by omega), (by intro j hj; by_cases ej : j = i.toNat; (subst ej; first | assumption | exact hok); exact hall0 j (by omega)), rfl⟩
    have hok := okPt_zero h2 hi0.1 h3
    refine aw_r [(7, .call [(true, .any)] true (Bv true)), (11, .dec false)] [0, 3, 45] [] [.ptr false [slPoint false s.Points], I i, Bv false] [] [(0 : Int) ≤ i ∧ i < (s.Points.length : Int), Con Tryz.prog 92 [agPoint (at_ s.Points i.toNat)] true (Bv true) ∧ True, ¬ (0 < i)] hB ⟨⟨(by omega), (by omega)⟩, ⟨(con_bool h2 (l02Point_ok (at_ s.Points i.toNat))), trivial⟩, h3, trivial⟩ ?_
    refine ae_then ?_
    refine aw_false rfl ?_
    refine aw_skip ?_
    refine ae_block 1 ?_
    refine ae_then ?_
    refine aw_r [] [0, 3] [] [.ptr false [slPoint false s.Points], I (i + 1)] [] [inR .i64 (i + 1)] hB ⟨(inR_i64 (by omega) (by omega)), trivial⟩ ?_
    exact ae_again _ (by omega) ⟨(i + 1), rfl, (by omega), (by intro j hj; by_cases ej : j = i.toNat; (subst ej; first | assumption | exact hok); exact hall0 j (by omega)), rfl⟩
   have hall : allN s.Points.length (okPt s.Points) = false := allN_not hi (okPt_bad h2)
   refine aw_r [(7, .call [(true, .any)] true (Bv false))] [0, 3, 45] [] [.ptr false [slPoint false s.Points], I i, Bv true] [] [(0 : Int) ≤ i ∧ i < (s.Points.length : Int), Con Tryz.prog 92 [agPoint (at_ s.Points i.toNat)] true (Bv false) ∧ True] hB ⟨⟨(by omega), (by omega)⟩, ⟨(con_bool h2 (l02Point_ok (at_ s.Points i.toNat))), trivial⟩, trivial⟩ ?_
   refine ae_then ?_
   refine aw_true rfl ?_
   refine aR [] [2] [] [Bv false] [] [] hB trivial ?_
   refine aw_ret ?_
   refine ae_ret_block (ae_ret_then (ae_ret_then (ae_ret_block (ae_ret_then ?_))))
   refine ae_ret hB (Bv false) (by kernel_rfl) (.inl (by first | rfl | (refine congrArg Bv ?_; simp [okStroke', inB, *]; done) | (refine congrArg Bv ?_; simp [okStroke', inB, *]; omega) | (refine congrArg Bv ?_; simp_all [okStroke', inB]; done) | (refine congrArg Bv ?_; simp_all [okStroke', inB]; omega))) rfl (fun _ => trivial)
  have hall : allN s.Points.length (okPt s.Points) = true := allN_at (fun j hj => hall0 j (by omega))
  refine aw_r [(6, .dec false)] [0, 3, 10] [] [.ptr false [slPoint false s.Points], I i, Bv false] [] [¬ (i < (s.Points.length : Int))] hB ⟨h1, trivial⟩ ?_
  refine ae_then ?_
  refine aw_false rfl ?_
  refine aw_exit ?_
  refine ae_exit_then ?_
  refine ae_exit_then ?_
  refine ae_exit_same ?_
  refine ae_then ?_
  refine aR [(5, .call [(true, .any), (true, .any), (true, .any)] true (Bv (inB (s.Points.length : Int) 1 60)))] [2] [] [Bv (inB (s.Points.length : Int) 1 60)] [] [Con Tryz.prog 24 [I (s.Points.length : Int), I 1, I 60] true (Bv (inB (s.Points.length : Int) 1 60)) ∧ True] hB ⟨⟨(l00In_ok (s.Points.length : Int) 1 60), trivial⟩, trivial⟩ ?_
  refine aw_ret ?_
  refine ae_ret hB (Bv (inB (s.Points.length : Int) 1 60)) (by kernel_rfl) (.inl (by first | rfl | (refine congrArg Bv ?_; simp [okStroke', inB, *]; done) | (refine congrArg Bv ?_; simp [okStroke', inB, *]; omega) | (refine congrArg Bv ?_; simp_all [okStroke', inB]; done) | (refine congrArg Bv ?_; simp_all [okStroke', inB]; omega))) rfl (fun _ => trivial)



-- spec.l02Ok
theorem l02Ok_ok (x : Ink) : Con Tryz.prog 23 [.ptr false [slStroke false x.Strokes]] true (Bv (okInk' x)) := by
  refine fn_ok (fn := Tryz.f23) (nt := 53) Tryz.func23 rfl rfl rfl rfl (by simp [taggedL, tagged, tagStroke]) fun B hB => ?_
  refine aw_lens (x := .ptr false [slStroke false x.Strokes]) 0 rfl (fun len_x => ?_)
  simp [LenOK, LenL, cPoint, cStroke, fPoint, fStroke, slPoint, slStroke] at len_x
  refine aR [] [0] [] [.ptr false [slStroke false x.Strokes]] [] [] hB trivial ?_
  refine aw_seq ?_
  refine aR [] [0, 3] [] [.ptr false [slStroke false x.Strokes], I 0] [] [] hB trivial ?_
  refine aw_block ?_
  refine aw_loop (fun gn gσ => ∃ (i : Int), gn = ((x.Strokes.length : Int) - i).toNat ∧ (0 ≤ i ∧ i ≤ (x.Strokes.length : Int)) ∧ (∀ j : Nat, (j : Int) < i → okSA x.Strokes j = true) ∧ gσ = mkS [(0, .ptr false [slStroke false x.Strokes]), (3, I i)] []) (((x.Strokes.length : Int) - 0).toNat) ⟨0, rfl, (by omega), (by intro j hj; omega), rfl⟩ (fun gn gσ hI => ?_)
  obtain ⟨i, rfl, hi0, hall0, rfl⟩ := hI
  refine aw_seq ?_
  refine aw_seq ?_
  by_cases h1 : i < (x.Strokes.length : Int)
  ·have hi : i.toNat < x.Strokes.length := by omega
   refine aw_r [(6, .dec true)] [0, 3, 10] [] [.ptr false [slStroke false x.Strokes], I i, Bv true] [] [i < (x.Strokes.length : Int)] hB ⟨h1, trivial⟩ ?_
   refine ae_then ?_
   refine aw_true rfl ?_
   refine aw_skip ?_
   refine ae_then ?_
   refine aw_seq ?_
   refine aw_block ?_
   refine aw_seq ?_
   rcases Bool.eq_false_or_eq_true (okStroke' (at_ x.Strokes i.toNat)) with h2 | h2
   ·have hln := okS_len h2
    by_cases h3 : 0 < i
    ·have hpr := okS_len (okSA_ok (hall0 (i - 1).toNat (by omega)))
     by_cases h4 : ((at_ ((at_ x.Strokes i.toNat).Points) 0).T) ≤ ((at_ (at_ x.Strokes ((i - 1).toNat)).Points ((at_ x.Strokes ((i - 1).toNat)).Points.length - 1)).T)
     ·have hall : allN x.Strokes.length (okSA x.Strokes) = false := allN_not hi (okSA_no h3 h4)
      refine aw_r [(6, .call [(true, .any)] true (Bv true)), (10, .dec true), (30, .call [(true, .any)] true (I ((at_ (at_ x.Strokes ((i - 1).toNat)).Points ((at_ x.Strokes ((i - 1).toNat)).Points.length - 1)).T))), (31, .dec true)] [0, 3, 46] [] [.ptr false [slStroke false x.Strokes], I i, Bv true] [] [(0 : Int) ≤ i ∧ i < (x.Strokes.length : Int), Con Tryz.prog 53 [.ptr false [slPoint false ((at_ x.Strokes i.toNat).Points)]] true (Bv true) ∧ True, 0 < i, (0 : Int) ≤ i ∧ i < (x.Strokes.length : Int), (0 : Int) ≤ 0 ∧ 0 < ((((at_ x.Strokes i.toNat).Points).length) : Int), inR .i64 (i - 1), (0 : Int) ≤ (i - 1) ∧ (i - 1) < (x.Strokes.length : Int), Con Tryz.prog 54 [.ptr false [slPoint false ((at_ x.Strokes ((i - 1).toNat)).Points)]] true (I ((at_ (at_ x.Strokes ((i - 1).toNat)).Points ((at_ x.Strokes ((i - 1).toNat)).Points.length - 1)).T)) ∧ True, ((at_ ((at_ x.Strokes i.toNat).Points) 0).T) ≤ ((at_ (at_ x.Strokes ((i - 1).toNat)).Points ((at_ x.Strokes ((i - 1).toNat)).Points.length - 1)).T)] hB ⟨⟨(by omega), (by omega)⟩, ⟨(con_bool h2 (l02Stroke_ok (at_ x.Strokes i.toNat))), trivial⟩, h3, ⟨(by omega), (by omega)⟩, ⟨(by omega), (by omega)⟩, (inR_i64 (by omega) (by omega)), ⟨(by omega), (by omega)⟩, ⟨(l02Last_ok (at_ x.Strokes ((i - 1).toNat)) (by omega)), trivial⟩, h4, trivial⟩ ?_
      refine ae_then ?_
      refine aw_true rfl ?_
      refine aR [] [2] [] [Bv false] [] [] hB trivial ?_
      refine aw_ret ?_
      refine ae_ret_block (ae_ret_then (ae_ret_then (ae_ret_block (ae_ret_then ?_))))
      refine ae_ret hB (Bv false) (by kernel_rfl) (.inl (by first | rfl | (refine congrArg Bv ?_; simp [okInk', *]; done) | (refine congrArg Bv ?_; simp [okInk', *]; omega) | (refine congrArg Bv ?_; simp_all [okInk']; done) | (refine congrArg Bv ?_; simp_all [okInk']; omega))) rfl (fun _ => trivial)
     have hok := okSA_yes h2 h3 h4
     refine aw_r [(6, .call [(true, .any)] true (Bv true)), (10, .dec true), (30, .call [(true, .any)] true (I ((at_ (at_ x.Strokes ((i - 1).toNat)).Points ((at_ x.Strokes ((i - 1).toNat)).Points.length - 1)).T))), (31, .dec false)] [0, 3, 46] [] [.ptr false [slStroke false x.Strokes], I i, Bv false] [] [(0 : Int) ≤ i ∧ i < (x.Strokes.length : Int), Con Tryz.prog 53 [.ptr false [slPoint false ((at_ x.Strokes i.toNat).Points)]] true (Bv true) ∧ True, 0 < i, (0 : Int) ≤ i ∧ i < (x.Strokes.length : Int), (0 : Int) ≤ 0 ∧ 0 < ((((at_ x.Strokes i.toNat).Points).length) : Int), inR .i64 (i - 1), (0 : Int) ≤ (i - 1) ∧ (i - 1) < (x.Strokes.length : Int), Con Tryz.prog 54 [.ptr false [slPoint false ((at_ x.Strokes ((i - 1).toNat)).Points)]] true (I ((at_ (at_ x.Strokes ((i - 1).toNat)).Points ((at_ x.Strokes ((i - 1).toNat)).Points.length - 1)).T)) ∧ True, ¬ (((at_ ((at_ x.Strokes i.toNat).Points) 0).T) ≤ ((at_ (at_ x.Strokes ((i - 1).toNat)).Points ((at_ x.Strokes ((i - 1).toNat)).Points.length - 1)).T))] hB ⟨⟨(by omega), (by omega)⟩, ⟨(con_bool h2 (l02Stroke_ok (at_ x.Strokes i.toNat))), trivial⟩, h3, ⟨(by omega), (by omega)⟩, ⟨(by omega), (by omega)⟩, (inR_i64 (by omega) (by omega)), ⟨(by omega), (by omega)⟩, ⟨(l02Last_ok (at_ x.Strokes ((i - 1).toNat)) (by omega)), trivial⟩, h4, trivial⟩ ?_
     refine ae_then ?_
     refine aw_false rfl ?_
     refine aw_skip ?_
     refine ae_block 1 ?_
     refine ae_then ?_
     refine aw_r [] [0, 3] [] [.ptr false [slStroke false x.Strokes], I (i + 1)] [] [inR .i64 (i + 1)] hB ⟨(inR_i64 (by omega) (by omega)), trivial⟩ ?_
     exact ae_again _ (by omega) ⟨(i + 1), rfl, (by omega), (by intro j hj; by_cases ej : j = i.toNat; (subst ej; first | assumption | exact hok); exact hall0 j (by omega)), rfl⟩
    have hok := okSA_zero h2 hi0.1 h3
    refine aw_r [(6, .call [(true, .any)] true (Bv true)), (10, .dec false)] [0, 3, 46] [] [.ptr false [slStroke false x.Strokes], I i, Bv false] [] [(0 : Int) ≤ i ∧ i < (x.Strokes.length : Int), Con Tryz.prog 53 [.ptr false [slPoint false ((at_ x.Strokes i.toNat).Points)]] true (Bv true) ∧ True, ¬ (0 < i)] hB ⟨⟨(by omega), (by omega)⟩, ⟨(con_bool h2 (l02Stroke_ok (at_ x.Strokes i.toNat))), trivial⟩, h3, trivial⟩ ?_
    refine ae_then ?_
    refine aw_false rfl ?_
    refine aw_skip ?_
    refine ae_block 1 ?_
    refine ae_then ?_
    refine aw_r [] [0, 3] [] [.ptr false [slStroke false x.Strokes], I (i + 1)] [] [inR .i64 (i + 1)] hB ⟨(inR_i64 (by omega) (by omega)), trivial⟩ ?_
    exact ae_again _ (by omega) ⟨(i + 1), rfl, (by omega), (by intro j hj; by_cases ej : j = i.toNat; (subst ej; first | assumption | exact hok); exact hall0 j (by omega)), rfl⟩
   have hall : allN x.Strokes.length (okSA x.Strokes) = false := allN_not hi (okSA_bad (by simpa using h2))
   refine aw_r [(6, .call [(true, .any)] true (Bv false))] [0, 3, 46] [] [.ptr false [slStroke false x.Strokes], I i, Bv true] [] [(0 : Int) ≤ i ∧ i < (x.Strokes.length : Int), Con Tryz.prog 53 [.ptr false [slPoint false ((at_ x.Strokes i.toNat).Points)]] true (Bv false) ∧ True] hB ⟨⟨(by omega), (by omega)⟩, ⟨(con_bool h2 (l02Stroke_ok (at_ x.Strokes i.toNat))), trivial⟩, trivial⟩ ?_
   refine ae_then ?_
   refine aw_true rfl ?_
   refine aR [] [2] [] [Bv false] [] [] hB trivial ?_
   refine aw_ret ?_
   refine ae_ret_block (ae_ret_then (ae_ret_then (ae_ret_block (ae_ret_then ?_))))
   refine ae_ret hB (Bv false) (by kernel_rfl) (.inl (by first | rfl | (refine congrArg Bv ?_; simp [okInk', *]; done) | (refine congrArg Bv ?_; simp [okInk', *]; omega) | (refine congrArg Bv ?_; simp_all [okInk']; done) | (refine congrArg Bv ?_; simp_all [okInk']; omega))) rfl (fun _ => trivial)
  have hall : allN x.Strokes.length (okSA x.Strokes) = true := allN_at (fun j hj => hall0 j (by omega))
  refine aw_r [(6, .dec false)] [0, 3, 10] [] [.ptr false [slStroke false x.Strokes], I i, Bv false] [] [¬ (i < (x.Strokes.length : Int))] hB ⟨h1, trivial⟩ ?_
  refine ae_then ?_
  refine aw_false rfl ?_
  refine aw_exit ?_
  refine ae_exit_then ?_
  refine ae_exit_then ?_
  refine ae_exit_same ?_
  refine ae_then ?_
  refine aR [] [2] [] [Bv (decide ((x.Strokes.length : Int) ≤ 16))] [] [] hB trivial ?_
  refine aw_ret ?_
  refine ae_ret hB (Bv (decide ((x.Strokes.length : Int) ≤ 16))) (by kernel_rfl) (.inl (by first | rfl | (refine congrArg Bv ?_; simp [okInk', *]; done) | (refine congrArg Bv ?_; simp [okInk', *]; omega) | (refine congrArg Bv ?_; simp_all [okInk']; done) | (refine congrArg Bv ?_; simp_all [okInk']; omega))) rfl (fun _ => trivial)



-- spec.FeatsOf
theorem specFeatsOf_ok (ik : Ink) (n : Int) : Con Tryz.prog 8 [.agg [slStroke false ik.Strokes], I n] true (.tup [slFeat true ((feR ik n).1), I ((feR ik n).2)]) := by
  refine fn_ok (fn := Tryz.f8) (nt := 17) Tryz.func8 rfl rfl rfl rfl (by simp [taggedL, tagged, tagStroke]) fun B hB => ?_
  refine aw_lens (x := .agg [slStroke false ik.Strokes]) 0 rfl (fun len_ik => ?_)
  simp [LenOK, LenL, cPoint, cStroke, fPoint, fStroke, slPoint, slStroke] at len_ik
  refine aR [(0, .new 2)] [1, 2] [2] [I n, .ref 2 0] [some (.box [slStroke false ik.Strokes])] [] hB trivial ?_
  refine aw_seq ?_
  refine aw_seq ?_
  rcases Bool.eq_false_or_eq_true (okInk' ik) with h1 | h1
  ·have hil := okI_len h1
   refine aw_r [(0, .call [(false, .ptr false [slStroke false ik.Strokes])] true (Bv true))] [1, 2, 7] [2] [I n, .ref 2 0, Bv false] [some (.box [slStroke false ik.Strokes])] [Con Tryz.prog 23 [.ptr false [slStroke false ik.Strokes]] true (Bv true) ∧ ((false = true → true = true) ∧ AV.idsL [slStroke false ik.Strokes] = [] ∧ ((false = true → false = true) ∧ 1 = 1 ∧ ik.Strokes.length = ik.Strokes.length ∧ ∀ i_, i_ < ik.Strokes.length → (fStroke false ik.Strokes) i_ = (fStroke false ik.Strokes) i_ ∨ (AV.idsL ((fStroke false ik.Strokes) i_) = [] ∧ leL (fun _ => none) false ((fStroke false ik.Strokes) i_) ((fStroke false ik.Strokes) i_))) ∧ ([] : List AV) = []) ∧ True] hB ⟨⟨(con_bool h1 (l02Ok_ok ik)), ⟨(fun h => by cases h), rfl, ⟨⟨(fun h => by cases h), rfl, rfl, fun i _ => .inl rfl⟩, rfl⟩⟩, trivial⟩, trivial⟩ ?_
   refine ae_then ?_
   refine aw_false rfl ?_
   refine aw_skip ?_
   refine ae_then ?_
   refine aw_seq ?_
   refine aw_seq ?_
   rcases Bool.eq_false_or_eq_true (inB n 2 24) with h2 | h2
   ·have hq2 := inB_iff.1 h2
    refine aw_r [(1, .call [(true, .any), (true, .any), (true, .any)] true (Bv true))] [1, 2, 10] [2] [I n, .ref 2 0, Bv false] [some (.box [slStroke false ik.Strokes])] [Con Tryz.prog 24 [I n, I 2, I 24] true (Bv true) ∧ True] hB ⟨⟨(con_bool h2 (l00In_ok n 2 24)), trivial⟩, trivial⟩ ?_
    refine ae_then ?_
    refine aw_false rfl ?_
    refine aw_skip ?_
    refine ae_then ?_
    refine aw_seq ?_
    refine aw_seq ?_
    by_cases h3 : (ik.Strokes.length : Int) = 0
    ·rw [feR_st h1 h2 h3]
     refine aw_r [(3, .dec true)] [1, 2, 14] [2] [I n, .ref 2 0, Bv true] [some (.box [slStroke false ik.Strokes])] [(ik.Strokes.length : Int) = 0] hB ⟨h3, trivial⟩ ?_
     refine ae_then ?_
     refine aw_true rfl ?_
     refine aR [] [4, 5] [] [nilA, I 6] [] [] hB trivial ?_
     refine aw_ret ?_
     refine ae_ret_then ?_
     refine ae_ret hB (.tup [nilA, I 6]) (by kernel_rfl) (.inr ⟨⟨(by first | omega | simp), rfl⟩, ⟨(by first | rfl | (simp [valOf]; done) | (simp [valOf]; omega)), rfl⟩⟩) rfl (fun _ => (by simp [tagged, taggedL, tagFeat]))
    rw [feR_yes h1 h2 h3]
    refine aw_r [(3, .dec false)] [1, 2, 14] [2] [I n, .ref 2 0, Bv false] [some (.box [slStroke false ik.Strokes])] [¬ ((ik.Strokes.length : Int) = 0)] hB ⟨h3, trivial⟩ ?_
    refine ae_then ?_
    refine aw_false rfl ?_
    refine aw_skip ?_
    refine ae_then ?_
    refine aR [(1, .call [(false, .ptr false [slStroke false ik.Strokes]), (true, .any)] true (slFeat true (feA ik n)))] [4, 5] [] [slFeat true (feA ik n), I 0] [] [Con Tryz.prog 25 [.ptr false [slStroke false ik.Strokes], I n] true (slFeat true (feA ik n)) ∧ ((false = true → true = true) ∧ AV.idsL [slStroke false ik.Strokes] = [] ∧ ((false = true → false = true) ∧ 1 = 1 ∧ ik.Strokes.length = ik.Strokes.length ∧ ∀ i_, i_ < ik.Strokes.length → (fStroke false ik.Strokes) i_ = (fStroke false ik.Strokes) i_ ∨ (AV.idsL ((fStroke false ik.Strokes) i_) = [] ∧ leL (fun _ => none) false ((fStroke false ik.Strokes) i_) ((fStroke false ik.Strokes) i_))) ∧ ([] : List AV) = []) ∧ True] hB ⟨⟨(l08Of_ok ik n h1 (by omega) (by omega)), ⟨(fun h => by cases h), rfl, ⟨⟨(fun h => by cases h), rfl, rfl, fun i _ => .inl rfl⟩, rfl⟩⟩, trivial⟩, trivial⟩ ?_
    refine aw_ret ?_
    refine ae_ret hB (.tup [slFeat true (feA ik n), I 0]) (by kernel_rfl) (.inr ⟨⟨(fun _ => rfl), rfl, (by first | rfl | (simp; done) | (simp; omega) | omega), fun i_ hi_ => .inl (by first | rfl | fail)⟩, ⟨(by first | rfl | (simp [valOf]; done) | (simp [valOf]; omega)), rfl⟩⟩) rfl (fun _ => (by simp [tagged, taggedL, tagFeat]))
   rw [feR_rng h1 h2]
   refine aw_r [(1, .call [(true, .any), (true, .any), (true, .any)] true (Bv false))] [1, 2, 10] [2] [I n, .ref 2 0, Bv true] [some (.box [slStroke false ik.Strokes])] [Con Tryz.prog 24 [I n, I 2, I 24] true (Bv false) ∧ True] hB ⟨⟨(con_bool h2 (l00In_ok n 2 24)), trivial⟩, trivial⟩ ?_
   refine ae_then ?_
   refine aw_true rfl ?_
   refine aR [] [4, 5] [] [nilA, I 2] [] [] hB trivial ?_
   refine aw_ret ?_
   refine ae_ret_then ?_
   refine ae_ret hB (.tup [nilA, I 2]) (by kernel_rfl) (.inr ⟨⟨(by first | omega | simp), rfl⟩, ⟨(by first | rfl | (simp [valOf]; done) | (simp [valOf]; omega)), rfl⟩⟩) rfl (fun _ => (by simp [tagged, taggedL, tagFeat]))
  rw [feR_inv h1]
  refine aw_r [(0, .call [(false, .ptr false [slStroke false ik.Strokes])] true (Bv false))] [1, 2, 7] [2] [I n, .ref 2 0, Bv true] [some (.box [slStroke false ik.Strokes])] [Con Tryz.prog 23 [.ptr false [slStroke false ik.Strokes]] true (Bv false) ∧ ((false = true → true = true) ∧ AV.idsL [slStroke false ik.Strokes] = [] ∧ ((false = true → false = true) ∧ 1 = 1 ∧ ik.Strokes.length = ik.Strokes.length ∧ ∀ i_, i_ < ik.Strokes.length → (fStroke false ik.Strokes) i_ = (fStroke false ik.Strokes) i_ ∨ (AV.idsL ((fStroke false ik.Strokes) i_) = [] ∧ leL (fun _ => none) false ((fStroke false ik.Strokes) i_) ((fStroke false ik.Strokes) i_))) ∧ ([] : List AV) = []) ∧ True] hB ⟨⟨(con_bool h1 (l02Ok_ok ik)), ⟨(fun h => by cases h), rfl, ⟨⟨(fun h => by cases h), rfl, rfl, fun i _ => .inl rfl⟩, rfl⟩⟩, trivial⟩, trivial⟩ ?_
  refine ae_then ?_
  refine aw_true rfl ?_
  refine aR [] [4, 5] [] [nilA, I 1] [] [] hB trivial ?_
  refine aw_ret ?_
  refine ae_ret_then ?_
  refine ae_ret hB (.tup [nilA, I 1]) (by kernel_rfl) (.inr ⟨⟨(by first | omega | simp), rfl⟩, ⟨(by first | rfl | (simp [valOf]; done) | (simp [valOf]; omega)), rfl⟩⟩) rfl (fun _ => (by simp [tagged, taggedL, tagFeat]))



-- spec.l01Small
theorem l01Small_ok (c : Int) : Con Tryz.prog 141 [.val (.int .u8 c)] true (Bv (inB c 97 122)) := by
  refine fn_ok (fn := Tryz.f141) (nt := 9) Tryz.func141 rfl rfl rfl rfl (by simp [taggedL, tagged]) fun B hB => ?_
  refine aR [] [0] [] [.val (.int .u8 c)] [] [] hB trivial ?_
  refine aw_seq ?_
  by_cases h1 : 97 ≤ c
  ·refine aw_r [(1, .dec true)] [2] [] [Bv (decide (c ≤ 122))] [] [97 ≤ c] hB ⟨h1, trivial⟩ ?_
   refine ae_then ?_
   refine aw_ret ?_
   refine ae_ret hB (Bv (decide (c ≤ 122))) (by kernel_rfl) (.inl (by first | rfl | (refine congrArg Bv ?_; simp [inB, *]; done) | (refine congrArg Bv ?_; simp [inB, *]; omega) | (refine congrArg Bv ?_; simp_all [inB]; done) | (refine congrArg Bv ?_; simp_all [inB]; omega))) rfl (fun _ => trivial)
  refine aw_r [(1, .dec false)] [2] [] [Bv false] [] [¬ (97 ≤ c)] hB ⟨h1, trivial⟩ ?_
  refine ae_then ?_
  refine aw_ret ?_
  refine ae_ret hB (Bv false) (by kernel_rfl) (.inl (by first | rfl | (refine congrArg Bv ?_; simp [inB, *]; done) | (refine congrArg Bv ?_; simp [inB, *]; omega) | (refine congrArg Bv ?_; simp_all [inB]; done) | (refine congrArg Bv ?_; simp_all [inB]; omega))) rfl (fun _ => trivial)



-- spec.l11Label
theorem l11Label_ok (c : Int) : Con Tryz.prog 100 [.val (.int .u8 c)] true (Bv (labB c)) := by
  refine fn_ok (fn := Tryz.f100) (nt := 24) Tryz.func100 rfl rfl rfl rfl (by simp [taggedL, tagged]) fun B hB => ?_
  refine aR [] [0] [] [.val (.int .u8 c)] [] [] hB trivial ?_
  refine aw_seq ?_
  refine aR [] [0, 3] [] [.val (.int .u8 c), .val (.int .u8 c)] [] [] hB trivial ?_
  refine aw_block ?_
  refine aw_seq ?_
  refine aw_seq ?_
  by_cases h1 : c = 43
  ·refine aw_r [(0, .dec true)] [0, 3, 4] [] [.val (.int .u8 c), .val (.int .u8 c), Bv true] [] [c = 43] hB ⟨h1, trivial⟩ ?_
   refine ae_then ?_
   refine aw_true rfl ?_
   refine aw_skip ?_
   refine ae_then ?_
   refine aw_true rfl ?_
   refine aR [] [2] [] [Bv true] [] [] hB trivial ?_
   refine aw_ret ?_
   refine ae_ret_block (ae_ret_then ?_)
   refine ae_ret hB (Bv true) (by kernel_rfl) (.inl (by first | rfl | (refine congrArg Bv ?_; simp [labB, inB, *]; done) | (refine congrArg Bv ?_; simp [labB, inB, *]; omega) | (refine congrArg Bv ?_; simp_all [labB, inB]; done) | (refine congrArg Bv ?_; simp_all [labB, inB]; omega))) rfl (fun _ => trivial)
  refine aw_r [(0, .dec false)] [0, 3, 4] [] [.val (.int .u8 c), .val (.int .u8 c), Bv false] [] [¬ (c = 43)] hB ⟨h1, trivial⟩ ?_
  refine ae_then ?_
  refine aw_false rfl ?_
  refine aw_seq ?_
  by_cases h2 : c = 45
  ·refine aw_r [(0, .dec true)] [0, 3, 4] [] [.val (.int .u8 c), .val (.int .u8 c), Bv true] [] [c = 45] hB ⟨h2, trivial⟩ ?_
   refine ae_then ?_
   refine aw_true rfl ?_
   refine aw_skip ?_
   refine ae_then ?_
   refine aw_true rfl ?_
   refine aR [] [2] [] [Bv true] [] [] hB trivial ?_
   refine aw_ret ?_
   refine ae_ret_block (ae_ret_then ?_)
   refine ae_ret hB (Bv true) (by kernel_rfl) (.inl (by first | rfl | (refine congrArg Bv ?_; simp [labB, inB, *]; done) | (refine congrArg Bv ?_; simp [labB, inB, *]; omega) | (refine congrArg Bv ?_; simp_all [labB, inB]; done) | (refine congrArg Bv ?_; simp_all [labB, inB]; omega))) rfl (fun _ => trivial)
  refine aw_r [(0, .dec false)] [0, 3, 4] [] [.val (.int .u8 c), .val (.int .u8 c), Bv false] [] [¬ (c = 45)] hB ⟨h2, trivial⟩ ?_
  refine ae_then ?_
  refine aw_false rfl ?_
  refine aw_seq ?_
  by_cases h3 : c = 42
  ·refine aw_r [(0, .dec true)] [0, 3, 4] [] [.val (.int .u8 c), .val (.int .u8 c), Bv true] [] [c = 42] hB ⟨h3, trivial⟩ ?_
   refine ae_then ?_
   refine aw_true rfl ?_
   refine aw_skip ?_
   refine ae_then ?_
   refine aw_true rfl ?_
   refine aR [] [2] [] [Bv true] [] [] hB trivial ?_
   refine aw_ret ?_
   refine ae_ret_block (ae_ret_then ?_)
   refine ae_ret hB (Bv true) (by kernel_rfl) (.inl (by first | rfl | (refine congrArg Bv ?_; simp [labB, inB, *]; done) | (refine congrArg Bv ?_; simp [labB, inB, *]; omega) | (refine congrArg Bv ?_; simp_all [labB, inB]; done) | (refine congrArg Bv ?_; simp_all [labB, inB]; omega))) rfl (fun _ => trivial)
  refine aw_r [(0, .dec false)] [0, 3, 4] [] [.val (.int .u8 c), .val (.int .u8 c), Bv false] [] [¬ (c = 42)] hB ⟨h3, trivial⟩ ?_
  refine ae_then ?_
  refine aw_false rfl ?_
  refine aw_seq ?_
  by_cases h4 : c = 47
  ·refine aw_r [(0, .dec true)] [0, 3, 4] [] [.val (.int .u8 c), .val (.int .u8 c), Bv true] [] [c = 47] hB ⟨h4, trivial⟩ ?_
   refine ae_then ?_
   refine aw_true rfl ?_
   refine aw_skip ?_
   refine ae_then ?_
   refine aw_true rfl ?_
   refine aR [] [2] [] [Bv true] [] [] hB trivial ?_
   refine aw_ret ?_
   refine ae_ret_block (ae_ret_then ?_)
   refine ae_ret hB (Bv true) (by kernel_rfl) (.inl (by first | rfl | (refine congrArg Bv ?_; simp [labB, inB, *]; done) | (refine congrArg Bv ?_; simp [labB, inB, *]; omega) | (refine congrArg Bv ?_; simp_all [labB, inB]; done) | (refine congrArg Bv ?_; simp_all [labB, inB]; omega))) rfl (fun _ => trivial)
  refine aw_r [(0, .dec false)] [0, 3, 4] [] [.val (.int .u8 c), .val (.int .u8 c), Bv false] [] [¬ (c = 47)] hB ⟨h4, trivial⟩ ?_
  refine ae_then ?_
  refine aw_false rfl ?_
  refine aw_seq ?_
  by_cases h5 : c = 61
  ·refine aw_r [(0, .dec true)] [0, 3, 4] [] [.val (.int .u8 c), .val (.int .u8 c), Bv true] [] [c = 61] hB ⟨h5, trivial⟩ ?_
   refine ae_then ?_
   refine aw_true rfl ?_
   refine aw_skip ?_
   refine ae_then ?_
   refine aw_true rfl ?_
   refine aR [] [2] [] [Bv true] [] [] hB trivial ?_
   refine aw_ret ?_
   refine ae_ret_block (ae_ret_then ?_)
   refine ae_ret hB (Bv true) (by kernel_rfl) (.inl (by first | rfl | (refine congrArg Bv ?_; simp [labB, inB, *]; done) | (refine congrArg Bv ?_; simp [labB, inB, *]; omega) | (refine congrArg Bv ?_; simp_all [labB, inB]; done) | (refine congrArg Bv ?_; simp_all [labB, inB]; omega))) rfl (fun _ => trivial)
  refine aw_r [(0, .dec false)] [0, 3, 4] [] [.val (.int .u8 c), .val (.int .u8 c), Bv false] [] [¬ (c = 61)] hB ⟨h5, trivial⟩ ?_
  refine ae_then ?_
  refine aw_false rfl ?_
  refine aw_seq ?_
  by_cases h6 : c = 40
  ·refine aw_r [(0, .dec true)] [0, 3, 4] [] [.val (.int .u8 c), .val (.int .u8 c), Bv true] [] [c = 40] hB ⟨h6, trivial⟩ ?_
   refine ae_then ?_
   refine aw_true rfl ?_
   refine aw_skip ?_
   refine ae_then ?_
   refine aw_true rfl ?_
   refine aR [] [2] [] [Bv true] [] [] hB trivial ?_
   refine aw_ret ?_
   refine ae_ret_block (ae_ret_then ?_)
   refine ae_ret hB (Bv true) (by kernel_rfl) (.inl (by first | rfl | (refine congrArg Bv ?_; simp [labB, inB, *]; done) | (refine congrArg Bv ?_; simp [labB, inB, *]; omega) | (refine congrArg Bv ?_; simp_all [labB, inB]; done) | (refine congrArg Bv ?_; simp_all [labB, inB]; omega))) rfl (fun _ => trivial)
  refine aw_r [(0, .dec false)] [0, 3, 4] [] [.val (.int .u8 c), .val (.int .u8 c), Bv false] [] [¬ (c = 40)] hB ⟨h6, trivial⟩ ?_
  refine ae_then ?_
  refine aw_false rfl ?_
  refine aw_seq ?_
  by_cases h7 : c = 41
  ·refine aw_r [(0, .dec true)] [0, 3, 4] [] [.val (.int .u8 c), .val (.int .u8 c), Bv true] [] [c = 41] hB ⟨h7, trivial⟩ ?_
   refine ae_then ?_
   refine aw_true rfl ?_
   refine aw_skip ?_
   refine ae_then ?_
   refine aw_true rfl ?_
   refine aR [] [2] [] [Bv true] [] [] hB trivial ?_
   refine aw_ret ?_
   refine ae_ret_block (ae_ret_then ?_)
   refine ae_ret hB (Bv true) (by kernel_rfl) (.inl (by first | rfl | (refine congrArg Bv ?_; simp [labB, inB, *]; done) | (refine congrArg Bv ?_; simp [labB, inB, *]; omega) | (refine congrArg Bv ?_; simp_all [labB, inB]; done) | (refine congrArg Bv ?_; simp_all [labB, inB]; omega))) rfl (fun _ => trivial)
  refine aw_r [(0, .dec false)] [0, 3, 4] [] [.val (.int .u8 c), .val (.int .u8 c), Bv false] [] [¬ (c = 41)] hB ⟨h7, trivial⟩ ?_
  refine ae_then ?_
  refine aw_false rfl ?_
  refine aw_seq ?_
  by_cases h8 : c = 46
  ·refine aw_r [(0, .dec true)] [0, 3, 4] [] [.val (.int .u8 c), .val (.int .u8 c), Bv true] [] [c = 46] hB ⟨h8, trivial⟩ ?_
   refine ae_then ?_
   refine aw_true rfl ?_
   refine aw_skip ?_
   refine ae_then ?_
   refine aw_true rfl ?_
   refine aR [] [2] [] [Bv true] [] [] hB trivial ?_
   refine aw_ret ?_
   refine ae_ret_block (ae_ret_then ?_)
   refine ae_ret hB (Bv true) (by kernel_rfl) (.inl (by first | rfl | (refine congrArg Bv ?_; simp [labB, inB, *]; done) | (refine congrArg Bv ?_; simp [labB, inB, *]; omega) | (refine congrArg Bv ?_; simp_all [labB, inB]; done) | (refine congrArg Bv ?_; simp_all [labB, inB]; omega))) rfl (fun _ => trivial)
  refine aw_r [(0, .dec false)] [0, 3, 4] [] [.val (.int .u8 c), .val (.int .u8 c), Bv false] [] [¬ (c = 46)] hB ⟨h8, trivial⟩ ?_
  refine ae_then ?_
  refine aw_false rfl ?_
  by_cases h9 : c = 44
  ·refine aw_r [(0, .dec true)] [0, 4] [] [.val (.int .u8 c), Bv true] [] [c = 44] hB ⟨h9, trivial⟩ ?_
   refine ae_then ?_
   refine aw_true rfl ?_
   refine aR [] [2] [] [Bv true] [] [] hB trivial ?_
   refine aw_ret ?_
   refine ae_ret_block (ae_ret_then ?_)
   refine ae_ret hB (Bv true) (by kernel_rfl) (.inl (by first | rfl | (refine congrArg Bv ?_; simp [labB, inB, *]; done) | (refine congrArg Bv ?_; simp [labB, inB, *]; omega) | (refine congrArg Bv ?_; simp_all [labB, inB]; done) | (refine congrArg Bv ?_; simp_all [labB, inB]; omega))) rfl (fun _ => trivial)
  refine aw_r [(0, .dec false)] [0, 4] [] [.val (.int .u8 c), Bv false] [] [¬ (c = 44)] hB ⟨h9, trivial⟩ ?_
  refine ae_then ?_
  refine aw_false rfl ?_
  refine aw_skip ?_
  refine ae_block 0 ?_
  refine ae_then ?_
  refine aw_seq ?_
  rcases Bool.eq_false_or_eq_true (inB c 97 122) with h10 | h10
  ·refine aw_r [(1, .call [(true, .any)] true (Bv true))] [2] [] [Bv true] [] [Con Tryz.prog 141 [.val (.int .u8 c)] true (Bv true) ∧ True] hB ⟨⟨(con_bool h10 (l01Small_ok c)), trivial⟩, trivial⟩ ?_
   refine ae_then ?_
   refine aw_ret ?_
   refine ae_ret hB (Bv true) (by kernel_rfl) (.inl (by first | rfl | (refine congrArg Bv ?_; simp [labB, inB, *]; done) | (refine congrArg Bv ?_; simp [labB, inB, *]; omega) | (refine congrArg Bv ?_; simp_all [labB, inB]; done) | (refine congrArg Bv ?_; simp_all [labB, inB]; omega))) rfl (fun _ => trivial)
  by_cases h11 : 48 ≤ c
  ·refine aw_r [(1, .call [(true, .any)] true (Bv false)), (4, .dec true)] [2] [] [Bv (decide (c ≤ 57))] [] [Con Tryz.prog 141 [.val (.int .u8 c)] true (Bv false) ∧ True, 48 ≤ c] hB ⟨⟨(con_bool h10 (l01Small_ok c)), trivial⟩, h11, trivial⟩ ?_
   refine ae_then ?_
   refine aw_ret ?_
   refine ae_ret hB (Bv (decide (c ≤ 57))) (by kernel_rfl) (.inl (by first | rfl | (refine congrArg Bv ?_; simp [labB, inB, *]; done) | (refine congrArg Bv ?_; simp [labB, inB, *]; omega) | (refine congrArg Bv ?_; simp_all [labB, inB]; done) | (refine congrArg Bv ?_; simp_all [labB, inB]; omega))) rfl (fun _ => trivial)
  refine aw_r [(1, .call [(true, .any)] true (Bv false)), (4, .dec false)] [2] [] [Bv false] [] [Con Tryz.prog 141 [.val (.int .u8 c)] true (Bv false) ∧ True, ¬ (48 ≤ c)] hB ⟨⟨(con_bool h10 (l01Small_ok c)), trivial⟩, h11, trivial⟩ ?_
  refine ae_then ?_
  refine aw_ret ?_
  refine ae_ret hB (Bv false) (by kernel_rfl) (.inl (by first | rfl | (refine congrArg Bv ?_; simp [labB, inB, *]; done) | (refine congrArg Bv ?_; simp [labB, inB, *]; omega) | (refine congrArg Bv ?_; simp_all [labB, inB]; done) | (refine congrArg Bv ?_; simp_all [labB, inB]; omega))) rfl (fun _ => trivial)



-- spec.IsLabel
theorem specIsLabel_ok (s : ByteArray) (ok : s.size ≤ 9223372036854775807) : Con Tryz.prog 61 [Sv s] true (Bv (okLabel s)) := by
  refine fn_ok (fn := Tryz.f61) (nt := 11) Tryz.func61 rfl rfl rfl rfl (by simp [taggedL, tagged]) fun B hB => ?_
  refine aR [] [0] [] [Sv s] [] [] hB trivial ?_
  refine aw_seq ?_
  by_cases h1 : (s.size : Int) = 1
  ·refine aw_r [(2, .dec true), (6, .call [(true, .any)] true (Bv (labB (bAt s 0))))] [2] [] [Bv (labB (bAt s 0))] [] [(s.size : Int) = 1, (0 : Int) ≤ 0 ∧ 0 < (s.size : Int), Con Tryz.prog 100 [.val (.int .u8 (bAt s 0))] true (Bv (labB (bAt s 0))) ∧ True] hB ⟨h1, ⟨(by omega), (by omega)⟩, ⟨(l11Label_ok (bAt s 0)), trivial⟩, trivial⟩ ?_
   refine ae_then ?_
   refine aw_ret ?_
   refine ae_ret hB (Bv (labB (bAt s 0))) (by kernel_rfl) (.inl (by first | rfl | (refine congrArg Bv ?_; simp [okLabel, *]; done) | (refine congrArg Bv ?_; simp [okLabel, *]; omega) | (refine congrArg Bv ?_; simp_all [okLabel]; done) | (refine congrArg Bv ?_; simp_all [okLabel]; omega))) rfl (fun _ => trivial)
  refine aw_r [(2, .dec false)] [2] [] [Bv false] [] [¬ ((s.size : Int) = 1)] hB ⟨h1, trivial⟩ ?_
  refine ae_then ?_
  refine aw_ret ?_
  refine ae_ret hB (Bv false) (by kernel_rfl) (.inl (by first | rfl | (refine congrArg Bv ?_; simp [okLabel, *]; done) | (refine congrArg Bv ?_; simp [okLabel, *]; omega) | (refine congrArg Bv ?_; simp_all [okLabel]; done) | (refine congrArg Bv ?_; simp_all [okLabel]; omega))) rfl (fun _ => trivial)



-- spec.l09Feat
theorem l09Feat_ok (f : Feat) : Con Tryz.prog 58 [agFeat f] true (Bv (okF f)) := by
  refine fn_ok (fn := Tryz.f58) (nt := 16) Tryz.func58 rfl rfl rfl rfl (by simp [taggedL, tagged]) fun B hB => ?_
  refine aR [(0, .new 1)] [1] [1] [.ref 1 0] [some (bxFeat f)] [] hB trivial ?_
  refine aw_seq ?_
  rcases Bool.eq_false_or_eq_true (inB f.X 0 255) with h1 | h1
  ·rcases Bool.eq_false_or_eq_true (inB f.Y 0 255) with h2 | h2
   ·refine aw_r [(2, .call [(true, .any), (true, .any), (true, .any)] true (Bv true)), (6, .call [(true, .any), (true, .any), (true, .any)] true (Bv true)), (11, .call [(true, .any), (true, .any), (true, .any)] true (Bv (inB f.D 0 7)))] [2] [] [Bv (inB f.D 0 7)] [] [Con Tryz.prog 24 [I f.X, I 0, I 255] true (Bv true) ∧ True, Con Tryz.prog 24 [I f.Y, I 0, I 255] true (Bv true) ∧ True, Con Tryz.prog 24 [I f.D, I 0, I 7] true (Bv (inB f.D 0 7)) ∧ True] hB ⟨⟨(con_bool h1 (l00In_ok f.X 0 255)), trivial⟩, ⟨(con_bool h2 (l00In_ok f.Y 0 255)), trivial⟩, ⟨(l00In_ok f.D 0 7), trivial⟩, trivial⟩ ?_
    refine ae_then ?_
    refine aw_ret ?_
    refine ae_ret hB (Bv (inB f.D 0 7)) (by kernel_rfl) (.inl (by first | rfl | (refine congrArg Bv ?_; simp [okF, *]; done) | (refine congrArg Bv ?_; simp [okF, *]; omega) | (refine congrArg Bv ?_; simp_all [okF]; done) | (refine congrArg Bv ?_; simp_all [okF]; omega))) rfl (fun _ => trivial)
   refine aw_r [(2, .call [(true, .any), (true, .any), (true, .any)] true (Bv true)), (6, .call [(true, .any), (true, .any), (true, .any)] true (Bv false))] [2] [] [Bv false] [] [Con Tryz.prog 24 [I f.X, I 0, I 255] true (Bv true) ∧ True, Con Tryz.prog 24 [I f.Y, I 0, I 255] true (Bv false) ∧ True] hB ⟨⟨(con_bool h1 (l00In_ok f.X 0 255)), trivial⟩, ⟨(con_bool h2 (l00In_ok f.Y 0 255)), trivial⟩, trivial⟩ ?_
   refine ae_then ?_
   refine aw_ret ?_
   refine ae_ret hB (Bv false) (by kernel_rfl) (.inl (by first | rfl | (refine congrArg Bv ?_; simp [okF, *]; done) | (refine congrArg Bv ?_; simp [okF, *]; omega) | (refine congrArg Bv ?_; simp_all [okF]; done) | (refine congrArg Bv ?_; simp_all [okF]; omega))) rfl (fun _ => trivial)
  refine aw_r [(2, .call [(true, .any), (true, .any), (true, .any)] true (Bv false))] [2] [] [Bv false] [] [Con Tryz.prog 24 [I f.X, I 0, I 255] true (Bv false) ∧ True] hB ⟨⟨(con_bool h1 (l00In_ok f.X 0 255)), trivial⟩, trivial⟩ ?_
  refine ae_then ?_
  refine aw_ret ?_
  refine ae_ret hB (Bv false) (by kernel_rfl) (.inl (by first | rfl | (refine congrArg Bv ?_; simp [okF, *]; done) | (refine congrArg Bv ?_; simp [okF, *]; omega) | (refine congrArg Bv ?_; simp_all [okF]; done) | (refine congrArg Bv ?_; simp_all [okF]; omega))) rfl (fun _ => trivial)



-- spec.l09Ok
theorem l09Ok_ok (list : List Feat) : Con Tryz.prog 27 [slFeat false list] true (Bv (okFeats list 72)) := by
  refine fn_ok (fn := Tryz.f27) (nt := 19) Tryz.func27 rfl rfl rfl rfl (by simp [taggedL, tagged, tagFeat]) fun B hB => ?_
  refine aw_lens (x := slFeat false list) 0 rfl (fun len_list => ?_)
  simp [LenOK, LenL, cFeat, fFeat, slFeat] at len_list
  refine aR [] [0] [] [slFeat false list] [] [] hB trivial ?_
  refine aw_seq ?_
  refine aR [] [0, 3] [] [slFeat false list, I 0] [] [] hB trivial ?_
  refine aw_block ?_
  refine aw_loop (fun gn gσ => ∃ (i : Int), gn = ((list.length : Int) - i).toNat ∧ (0 ≤ i ∧ i ≤ (list.length : Int)) ∧ (∀ j : Nat, (j : Int) < i → okF (at_ list j) = true) ∧ gσ = mkS [(0, slFeat false list), (3, I i)] []) (((list.length : Int) - 0).toNat) ⟨0, rfl, (by omega), (by intro j hj; omega), rfl⟩ (fun gn gσ hI => ?_)
  obtain ⟨i, rfl, hi0, hall0, rfl⟩ := hI
  refine aw_seq ?_
  refine aw_seq ?_
  by_cases h1 : i < (list.length : Int)
  ·have hi : i.toNat < list.length := by omega
   refine aw_r [(3, .dec true)] [0, 3, 7] [] [slFeat false list, I i, Bv true] [] [i < (list.length : Int)] hB ⟨h1, trivial⟩ ?_
   refine ae_then ?_
   refine aw_true rfl ?_
   refine aw_skip ?_
   refine ae_then ?_
   refine aw_seq ?_
   refine aw_block ?_
   refine aw_seq ?_
   rcases Bool.eq_false_or_eq_true (okF (at_ list i.toNat)) with h2 | h2
   ·refine aw_r [(4, .call [(true, .any)] true (Bv true))] [0, 3, 15] [] [slFeat false list, I i, Bv false] [] [(0 : Int) ≤ i ∧ i < (list.length : Int), Con Tryz.prog 58 [agFeat (at_ list i.toNat)] true (Bv true) ∧ True] hB ⟨⟨(by omega), (by omega)⟩, ⟨(con_bool h2 (l09Feat_ok (at_ list i.toNat))), trivial⟩, trivial⟩ ?_
    refine ae_then ?_
    refine aw_false rfl ?_
    refine aw_skip ?_
    refine ae_block 1 ?_
    refine ae_then ?_
    refine aw_r [] [0, 3] [] [slFeat false list, I (i + 1)] [] [inR .i64 (i + 1)] hB ⟨(inR_i64 (by omega) (by omega)), trivial⟩ ?_
    exact ae_again _ (by omega) ⟨(i + 1), rfl, (by omega), (by intro j hj; by_cases ej : j = i.toNat; (subst ej; first | assumption | exact hok); exact hall0 j (by omega)), rfl⟩
   have hall : allN list.length (fun j => okF (at_ list j)) = false := allN_not hi h2
   refine aw_r [(4, .call [(true, .any)] true (Bv false))] [0, 3, 15] [] [slFeat false list, I i, Bv true] [] [(0 : Int) ≤ i ∧ i < (list.length : Int), Con Tryz.prog 58 [agFeat (at_ list i.toNat)] true (Bv false) ∧ True] hB ⟨⟨(by omega), (by omega)⟩, ⟨(con_bool h2 (l09Feat_ok (at_ list i.toNat))), trivial⟩, trivial⟩ ?_
   refine ae_then ?_
   refine aw_true rfl ?_
   refine aR [] [2] [] [Bv false] [] [] hB trivial ?_
   refine aw_ret ?_
   refine ae_ret_block (ae_ret_then (ae_ret_then (ae_ret_block (ae_ret_then ?_))))
   refine ae_ret hB (Bv false) (by kernel_rfl) (.inl (by first | rfl | (refine congrArg Bv ?_; simp [okFeats, inB, *]; done) | (refine congrArg Bv ?_; simp [okFeats, inB, *]; omega) | (refine congrArg Bv ?_; simp_all [okFeats, inB]; done) | (refine congrArg Bv ?_; simp_all [okFeats, inB]; omega))) rfl (fun _ => trivial)
  have hall : allN list.length (fun j => okF (at_ list j)) = true := allN_at (fun j hj => hall0 j (by omega))
  refine aw_r [(3, .dec false)] [0, 3, 7] [] [slFeat false list, I i, Bv false] [] [¬ (i < (list.length : Int))] hB ⟨h1, trivial⟩ ?_
  refine ae_then ?_
  refine aw_false rfl ?_
  refine aw_exit ?_
  refine ae_exit_then ?_
  refine ae_exit_then ?_
  refine ae_exit_same ?_
  refine ae_then ?_
  refine aR [(2, .call [(true, .any), (true, .any), (true, .any)] true (Bv (inB (list.length : Int) 1 72)))] [2] [] [Bv (inB (list.length : Int) 1 72)] [] [Con Tryz.prog 24 [I (list.length : Int), I 1, I 72] true (Bv (inB (list.length : Int) 1 72)) ∧ True] hB ⟨⟨(l00In_ok (list.length : Int) 1 72), trivial⟩, trivial⟩ ?_
  refine aw_ret ?_
  refine ae_ret hB (Bv (inB (list.length : Int) 1 72)) (by kernel_rfl) (.inl (by first | rfl | (refine congrArg Bv ?_; simp [okFeats, inB, *]; done) | (refine congrArg Bv ?_; simp [okFeats, inB, *]; omega) | (refine congrArg Bv ?_; simp_all [okFeats, inB]; done) | (refine congrArg Bv ?_; simp_all [okFeats, inB]; omega))) rfl (fun _ => trivial)



-- spec.l11Template
theorem l11Template_ok (t : Template) (ok : t.Label.size ≤ 9223372036854775807) : Con Tryz.prog 57 [.ptr false [Sv t.Label, slFeat false t.Feats]] true (Bv (okTm t)) := by
  refine fn_ok (fn := Tryz.f57) (nt := 15) Tryz.func57 rfl rfl rfl rfl (by simp [taggedL, tagged, tagFeat]) fun B hB => ?_
  refine aw_lens (x := .ptr false [Sv t.Label, slFeat false t.Feats]) 0 rfl (fun len_t => ?_)
  simp [LenOK, LenL, cFeat, fFeat, slFeat] at len_t
  refine aR [] [0] [] [.ptr false [Sv t.Label, slFeat false t.Feats]] [] [] hB trivial ?_
  refine aw_seq ?_
  rcases Bool.eq_false_or_eq_true (okLabel t.Label) with h1 | h1
  ·refine aw_r [(4, .call [(true, .any)] true (Bv true)), (10, .call [(true, .any)] true (Bv (okFeats t.Feats 72)))] [2] [] [Bv (okFeats t.Feats 72)] [] [Con Tryz.prog 61 [Sv t.Label] true (Bv true) ∧ True, Con Tryz.prog 27 [slFeat false t.Feats] true (Bv (okFeats t.Feats 72)) ∧ True] hB ⟨⟨(con_bool h1 (specIsLabel_ok t.Label ok)), trivial⟩, ⟨(l09Ok_ok t.Feats), trivial⟩, trivial⟩ ?_
   refine ae_then ?_
   refine aw_ret ?_
   refine ae_ret hB (Bv (okFeats t.Feats 72)) (by kernel_rfl) (.inl (by first | rfl | (refine congrArg Bv ?_; simp [okTm, *]; done) | (refine congrArg Bv ?_; simp [okTm, *]; omega) | (refine congrArg Bv ?_; simp_all [okTm]; done) | (refine congrArg Bv ?_; simp_all [okTm]; omega))) rfl (fun _ => trivial)
  refine aw_r [(4, .call [(true, .any)] true (Bv false))] [2] [] [Bv false] [] [Con Tryz.prog 61 [Sv t.Label] true (Bv false) ∧ True] hB ⟨⟨(con_bool h1 (specIsLabel_ok t.Label ok)), trivial⟩, trivial⟩ ?_
  refine ae_then ?_
  refine aw_ret ?_
  refine ae_ret hB (Bv false) (by kernel_rfl) (.inl (by first | rfl | (refine congrArg Bv ?_; simp [okTm, *]; done) | (refine congrArg Bv ?_; simp [okTm, *]; omega) | (refine congrArg Bv ?_; simp_all [okTm]; done) | (refine congrArg Bv ?_; simp_all [okTm]; omega))) rfl (fun _ => trivial)



-- spec.l11Ok
theorem l11Ok_ok (s : Store) (ok : okStore s) : Con Tryz.prog 26 [.ptr false [I s.Band, slTemplate false s.Templates]] true (Bv (okStore' s)) := by
  refine fn_ok (fn := Tryz.f26) (nt := 34) Tryz.func26 rfl rfl rfl rfl (by simp [taggedL, tagged, tagTemplate]) fun B hB => ?_
  refine aw_lens (x := .ptr false [I s.Band, slTemplate false s.Templates]) 0 rfl (fun len_s => ?_)
  simp [LenOK, LenL, cFeat, cTemplate, fFeat, fTemplate, slFeat, slTemplate] at len_s
  refine aR [] [0] [] [.ptr false [I s.Band, slTemplate false s.Templates]] [] [] hB trivial ?_
  refine aw_seq ?_
  refine aR [] [0, 3] [] [.ptr false [I s.Band, slTemplate false s.Templates], I 0] [] [] hB trivial ?_
  refine aw_block ?_
  refine aw_loop (fun gn gσ => ∃ (i : Int), gn = ((s.Templates.length : Int) - i).toNat ∧ (0 ≤ i ∧ i ≤ (s.Templates.length : Int)) ∧ (∀ j : Nat, (j : Int) < i → okTm (at_ s.Templates j) = true) ∧ gσ = mkS [(0, .ptr false [I s.Band, slTemplate false s.Templates]), (3, I i)] []) (((s.Templates.length : Int) - 0).toNat) ⟨0, rfl, (by omega), (by intro j hj; omega), rfl⟩ (fun gn gσ hI => ?_)
  obtain ⟨i, rfl, hi0, hall0, rfl⟩ := hI
  refine aw_seq ?_
  refine aw_seq ?_
  by_cases h1 : i < (s.Templates.length : Int)
  ·have hi : i.toNat < s.Templates.length := by omega
   refine aw_r [(6, .dec true)] [0, 3, 10] [] [.ptr false [I s.Band, slTemplate false s.Templates], I i, Bv true] [] [i < (s.Templates.length : Int)] hB ⟨h1, trivial⟩ ?_
   refine ae_then ?_
   refine aw_true rfl ?_
   refine aw_skip ?_
   refine ae_then ?_
   refine aw_seq ?_
   refine aw_block ?_
   refine aw_seq ?_
   rcases Bool.eq_false_or_eq_true (okTm (at_ s.Templates i.toNat)) with h2 | h2
   ·refine aw_r [(6, .call [(true, .any)] true (Bv true))] [0, 3, 20] [] [.ptr false [I s.Band, slTemplate false s.Templates], I i, Bv false] [] [(0 : Int) ≤ i ∧ i < (s.Templates.length : Int), Con Tryz.prog 57 [.ptr false [Sv ((at_ s.Templates i.toNat).Label), slFeat false ((at_ s.Templates i.toNat).Feats)]] true (Bv true) ∧ True] hB ⟨⟨(by omega), (by omega)⟩, ⟨(con_bool h2 (l11Template_ok (at_ s.Templates i.toNat) (ok _ (at_mem hi)))), trivial⟩, trivial⟩ ?_
    refine ae_then ?_
    refine aw_false rfl ?_
    refine aw_skip ?_
    refine ae_block 1 ?_
    refine ae_then ?_
    refine aw_r [] [0, 3] [] [.ptr false [I s.Band, slTemplate false s.Templates], I (i + 1)] [] [inR .i64 (i + 1)] hB ⟨(inR_i64 (by omega) (by omega)), trivial⟩ ?_
    exact ae_again _ (by omega) ⟨(i + 1), rfl, (by omega), (by intro j hj; by_cases ej : j = i.toNat; (subst ej; first | assumption | exact hok); exact hall0 j (by omega)), rfl⟩
   have hall : allN s.Templates.length (fun j => okTm (at_ s.Templates j)) = false := allN_not hi h2
   refine aw_r [(6, .call [(true, .any)] true (Bv false))] [0, 3, 20] [] [.ptr false [I s.Band, slTemplate false s.Templates], I i, Bv true] [] [(0 : Int) ≤ i ∧ i < (s.Templates.length : Int), Con Tryz.prog 57 [.ptr false [Sv ((at_ s.Templates i.toNat).Label), slFeat false ((at_ s.Templates i.toNat).Feats)]] true (Bv false) ∧ True] hB ⟨⟨(by omega), (by omega)⟩, ⟨(con_bool h2 (l11Template_ok (at_ s.Templates i.toNat) (ok _ (at_mem hi)))), trivial⟩, trivial⟩ ?_
   refine ae_then ?_
   refine aw_true rfl ?_
   refine aR [] [2] [] [Bv false] [] [] hB trivial ?_
   refine aw_ret ?_
   refine ae_ret_block (ae_ret_then (ae_ret_then (ae_ret_block (ae_ret_then ?_))))
   refine ae_ret hB (Bv false) (by kernel_rfl) (.inl (by first | rfl | (refine congrArg Bv ?_; simp [okStore', inB, *]; done) | (refine congrArg Bv ?_; simp [okStore', inB, *]; omega) | (refine congrArg Bv ?_; simp_all [okStore', inB]; done) | (refine congrArg Bv ?_; simp_all [okStore', inB]; omega))) rfl (fun _ => trivial)
  have hall : allN s.Templates.length (fun j => okTm (at_ s.Templates j)) = true := allN_at (fun j hj => hall0 j (by omega))
  refine aw_r [(6, .dec false)] [0, 3, 10] [] [.ptr false [I s.Band, slTemplate false s.Templates], I i, Bv false] [] [¬ (i < (s.Templates.length : Int))] hB ⟨h1, trivial⟩ ?_
  refine ae_then ?_
  refine aw_false rfl ?_
  refine aw_exit ?_
  refine ae_exit_then ?_
  refine ae_exit_then ?_
  refine ae_exit_same ?_
  refine ae_then ?_
  refine aw_seq ?_
  rcases Bool.eq_false_or_eq_true (inB s.Band 0 72) with h3 | h3
  ·refine aw_r [(4, .call [(true, .any), (true, .any), (true, .any)] true (Bv true))] [2] [] [Bv (decide ((s.Templates.length : Int) ≤ 40))] [] [Con Tryz.prog 24 [I s.Band, I 0, I 72] true (Bv true) ∧ True] hB ⟨⟨(con_bool h3 (l00In_ok s.Band 0 72)), trivial⟩, trivial⟩ ?_
   refine ae_then ?_
   refine aw_ret ?_
   refine ae_ret hB (Bv (decide ((s.Templates.length : Int) ≤ 40))) (by kernel_rfl) (.inl (by first | rfl | (refine congrArg Bv ?_; simp [okStore', inB, *]; done) | (refine congrArg Bv ?_; simp [okStore', inB, *]; omega) | (refine congrArg Bv ?_; simp_all [okStore', inB]; done) | (refine congrArg Bv ?_; simp_all [okStore', inB]; omega))) rfl (fun _ => trivial)
  refine aw_r [(4, .call [(true, .any), (true, .any), (true, .any)] true (Bv false))] [2] [] [Bv false] [] [Con Tryz.prog 24 [I s.Band, I 0, I 72] true (Bv false) ∧ True] hB ⟨⟨(con_bool h3 (l00In_ok s.Band 0 72)), trivial⟩, trivial⟩ ?_
  refine ae_then ?_
  refine aw_ret ?_
  refine ae_ret hB (Bv false) (by kernel_rfl) (.inl (by first | rfl | (refine congrArg Bv ?_; simp [okStore', inB, *]; done) | (refine congrArg Bv ?_; simp [okStore', inB, *]; omega) | (refine congrArg Bv ?_; simp_all [okStore', inB]; done) | (refine congrArg Bv ?_; simp_all [okStore', inB]; omega))) rfl (fun _ => trivial)



-- spec.l09Size
theorem l09Size_ok (n : Int) (hn : -9223372036854775807 ≤ n ∧ n ≤ 9223372036854775807) : Con Tryz.prog 139 [I n] true (I (n.natAbs : Int)) := by
  refine fn_ok (fn := Tryz.f139) (nt := 8) Tryz.func139 rfl rfl rfl rfl (by simp [taggedL, tagged]) fun B hB => ?_
  refine aR [] [0] [] [I n] [] [] hB trivial ?_
  refine aw_seq ?_
  refine aw_seq ?_
  by_cases h1 : n < 0
  ·refine aw_r [(1, .dec true)] [0, 4] [] [I n, Bv true] [] [n < 0] hB ⟨h1, trivial⟩ ?_
   refine ae_then ?_
   refine aw_true rfl ?_
   refine aR [] [2] [] [I (-n)] [] [inR .i64 (-n)] hB ⟨(inR_i64 (by omega) (by omega)), trivial⟩ ?_
   refine aw_ret ?_
   refine ae_ret_then ?_
   refine ae_ret hB (I (-n)) (by kernel_rfl) (.inl (by refine congrArg I ?_; omega)) rfl (fun _ => trivial)
  refine aw_r [(1, .dec false)] [0, 4] [] [I n, Bv false] [] [¬ (n < 0)] hB ⟨h1, trivial⟩ ?_
  refine ae_then ?_
  refine aw_false rfl ?_
  refine aw_skip ?_
  refine ae_then ?_
  refine aR [] [2] [] [I n] [] [] hB trivial ?_
  refine aw_ret ?_
  refine ae_ret hB (I n) (by kernel_rfl) (.inl (by refine congrArg I ?_; omega)) rfl (fun _ => trivial)



-- spec.l10Band
theorem l10Band_ok (n : Int) (m : Int) (band : Int) (hn : 0 ≤ n ∧ n ≤ 4611686018427387904) (hm : 0 ≤ m ∧ m ≤ 4611686018427387904) : Con Tryz.prog 98 [I n, I m, I band] true (Bv (inB band 0 72 && decide (((n - m).natAbs : Int) ≤ band))) := by
  refine fn_ok (fn := Tryz.f98) (nt := 17) Tryz.func98 rfl rfl rfl rfl (by simp [taggedL, tagged]) fun B hB => ?_
  refine aR [] [0, 1, 2] [] [I n, I m, I band] [] [] hB trivial ?_
  refine aw_seq ?_
  rcases Bool.eq_false_or_eq_true (inB band 0 72) with h1 | h1
  ·refine aw_r [(1, .call [(true, .any), (true, .any), (true, .any)] true (Bv true)), (6, .call [(true, .any)] true (I ((n - m).natAbs : Int)))] [6] [] [Bv (decide (((n - m).natAbs : Int) ≤ band))] [] [Con Tryz.prog 24 [I band, I 0, I 72] true (Bv true) ∧ True, inR .i64 (n - m), Con Tryz.prog 139 [I (n - m)] true (I ((n - m).natAbs : Int)) ∧ True] hB ⟨⟨(con_bool h1 (l00In_ok band 0 72)), trivial⟩, (inR_i64 (by omega) (by omega)), ⟨(l09Size_ok (n - m) (by omega)), trivial⟩, trivial⟩ ?_
   refine ae_then ?_
   refine aw_ret ?_
   refine ae_ret hB (Bv (decide (((n - m).natAbs : Int) ≤ band))) (by kernel_rfl) (.inl (by refine congrArg Bv ?_; first | (simp [*]; done) | (simp [inB] at *; omega))) rfl (fun _ => trivial)
  refine aw_r [(1, .call [(true, .any), (true, .any), (true, .any)] true (Bv false))] [6] [] [Bv false] [] [Con Tryz.prog 24 [I band, I 0, I 72] true (Bv false) ∧ True] hB ⟨⟨(con_bool h1 (l00In_ok band 0 72)), trivial⟩, trivial⟩ ?_
  refine ae_then ?_
  refine aw_ret ?_
  refine ae_ret hB (Bv false) (by kernel_rfl) (.inl (by refine congrArg Bv ?_; first | (simp [*]; done) | (simp [inB] at *; omega))) rfl (fun _ => trivial)



-- spec.l10In
theorem l10In_ok (a : List Feat) (b : List Feat) (band : Int) (ha : a.length ≤ 100000) (hb : b.length ≤ 100000) : Con Tryz.prog 59 [slFeat false a, slFeat false b, I band] true (Bv (inB band 0 72 && decide (((((a.length : Int) - (b.length : Int)).natAbs : Int) ≤ band)))) := by
  refine fn_ok (fn := Tryz.f59) (nt := 13) Tryz.func59 rfl rfl rfl rfl (by simp [taggedL, tagged, tagFeat]) fun B hB => ?_
  refine aw_lens (x := slFeat false a) 0 rfl (fun len_a => ?_)
  simp [LenOK, LenL, cFeat, fFeat, slFeat] at len_a
  refine aw_lens (x := slFeat false b) 1 rfl (fun len_b => ?_)
  simp [LenOK, LenL, cFeat, fFeat, slFeat] at len_b
  refine aR [] [0, 1, 2] [] [slFeat false a, slFeat false b, I band] [] [] hB trivial ?_
  refine aR [(5, .call [(true, .any), (true, .any), (true, .any)] true (Bv (inB band 0 72 && decide ((((a.length : Int) - (b.length : Int)).natAbs : Int) ≤ band))))] [6] [] [Bv (inB band 0 72 && decide ((((a.length : Int) - (b.length : Int)).natAbs : Int) ≤ band))] [] [Con Tryz.prog 98 [I (a.length : Int), I (b.length : Int), I band] true (Bv (inB band 0 72 && decide ((((a.length : Int) - (b.length : Int)).natAbs : Int) ≤ band))) ∧ True] hB ⟨⟨(l10Band_ok (a.length : Int) (b.length : Int) band (by omega) (by omega)), trivial⟩, trivial⟩ ?_
  refine aw_ret ?_
  refine ae_ret hB (Bv (inB band 0 72 && decide ((((a.length : Int) - (b.length : Int)).natAbs : Int) ≤ band))) (by kernel_rfl) (.inl (by first | rfl | (refine congrArg Bv ?_; simp [*]; done) | (refine congrArg Bv ?_; simp [*]; omega) | (refine congrArg Bv ?_; simp_all []; done) | (refine congrArg Bv ?_; simp_all []; omega))) rfl (fun _ => trivial)



-- spec.l09Cost
theorem l09Cost_ok (a : Feat) (b : Feat) (ha : okF a = true) (hb : okF b = true) : Con Tryz.prog 140 [agFeat a, agFeat b] true (I (costF a b)) := by
  have ha' := okF_iff.1 ha
  have hb' := okF_iff.1 hb
  refine fn_ok (fn := Tryz.f140) (nt := 31) Tryz.func140 rfl rfl rfl rfl (by simp [taggedL, tagged]) fun B hB => ?_
  refine aR [(0, .new 2), (1, .new 3)] [2, 3] [2, 3] [.ref 2 0, .ref 3 0] [some (bxFeat a), some (bxFeat b)] [] hB trivial ?_
  refine aR [(5, .call [(true, .any)] true (I ((a.D - b.D).natAbs : Int)))] [2, 3, 5] [2, 3] [.ref 2 0, .ref 3 0, I ((a.D - b.D).natAbs : Int)] [some (bxFeat a), some (bxFeat b)] [inR .i64 (a.D - b.D), Con Tryz.prog 139 [I (a.D - b.D)] true (I ((a.D - b.D).natAbs : Int)) ∧ True] hB ⟨(inR_i64 (by omega) (by omega)), ⟨(l09Size_ok (a.D - b.D) (by omega)), trivial⟩, trivial⟩ ?_
  refine aR [(5, .call [(true, .any)] true (I ((a.X - b.X).natAbs : Int))), (11, .call [(true, .any)] true (I ((a.Y - b.Y).natAbs : Int))), (16, .call [(true, .any), (true, .any)] true (I (min ((a.D - b.D).natAbs : Int) (8 - ((a.D - b.D).natAbs : Int)))))] [4] [] [I ((((a.X - b.X).natAbs : Int) + ((a.Y - b.Y).natAbs : Int)) + (16 * (min ((a.D - b.D).natAbs : Int) (8 - ((a.D - b.D).natAbs : Int)))))] [] [inR .i64 (a.X - b.X), Con Tryz.prog 139 [I (a.X - b.X)] true (I ((a.X - b.X).natAbs : Int)) ∧ True, inR .i64 (a.Y - b.Y), Con Tryz.prog 139 [I (a.Y - b.Y)] true (I ((a.Y - b.Y).natAbs : Int)) ∧ True, inR .i64 (((a.X - b.X).natAbs : Int) + ((a.Y - b.Y).natAbs : Int)), inR .i64 (8 - ((a.D - b.D).natAbs : Int)), Con Tryz.prog 119 [I ((a.D - b.D).natAbs : Int), I (8 - ((a.D - b.D).natAbs : Int))] true (I (min ((a.D - b.D).natAbs : Int) (8 - ((a.D - b.D).natAbs : Int)))) ∧ True, inR .i64 (16 * (min ((a.D - b.D).natAbs : Int) (8 - ((a.D - b.D).natAbs : Int)))), inR .i64 ((((a.X - b.X).natAbs : Int) + ((a.Y - b.Y).natAbs : Int)) + (16 * (min ((a.D - b.D).natAbs : Int) (8 - ((a.D - b.D).natAbs : Int)))))] hB ⟨(inR_i64 (by omega) (by omega)), ⟨(l09Size_ok (a.X - b.X) (by omega)), trivial⟩, (inR_i64 (by omega) (by omega)), ⟨(l09Size_ok (a.Y - b.Y) (by omega)), trivial⟩, (inR_i64 (by omega) (by omega)), (inR_i64 (by omega) (by omega)), ⟨(l00Min_ok ((a.D - b.D).natAbs : Int) (8 - ((a.D - b.D).natAbs : Int))), trivial⟩, (inR_i64 (by omega) (by omega)), (inR_i64 (by omega) (by omega)), trivial⟩ ?_
  refine aw_ret ?_
  refine ae_ret hB (I ((((a.X - b.X).natAbs : Int) + ((a.Y - b.Y).natAbs : Int)) + (16 * (min ((a.D - b.D).natAbs : Int) (8 - ((a.D - b.D).natAbs : Int)))))) (by kernel_rfl) (.inl (by refine congrArg I ?_; first | rfl | (unfold costF; omega))) rfl (fun _ => trivial)



-- spec.l09Table
set_option maxHeartbeats 4000000 in
theorem l09Table_ok (a : List Feat) (b : List Feat) (band : Int) (hab : okAB a b) (hbd : 0 ≤ band ∧ band ≤ 1000) : ∃ (out : List Int), (flOk a b band out (a.length * b.length)) ∧ Con Tryz.prog 99 [slFeat false a, slFeat false b, I band] true (slI true out) := by
  have hla := hab.2.2
  have hnm : (a.length : Int) * (b.length : Int) = ((a.length * b.length : Nat) : Int) := (Int.natCast_mul _ _).symm
  have hnl := Nat.mul_le_mul hla.1 hla.2
  have hh : ∃ r : (List Int), ((flOk a b band r (a.length * b.length)) ∧ (True)) ∧ CallOK Tryz.prog 99 [slFeat false a, slFeat false b, I band] (lookO []) true (slI true r) (lookO []) := by
    refine fn_okX (Φ := fun r : (List Int) => (flOk a b band r (a.length * b.length)) ∧ (True)) [] (fun r => []) (fn := Tryz.f99) (nt := 117) Tryz.func99 rfl rfl (args := [slFeat false a, slFeat false b, I band]) rfl (allcons (.inl ⟨rfl, tagFeat false _⟩) (allcons (.inl ⟨rfl, tagFeat false _⟩) (allcons (.inl ⟨rfl, trivial⟩) allnil))) (res := fun r => slI true r) ?_
    refine xR [] [0, 1, 2] [] [slFeat false a, slFeat false b, I band] [] [] trivial ?_
    refine xR [] [0, 1, 2, 7] [] [slFeat false a, slFeat false b, I band, I (a.length : Int)] [] [] trivial ?_
    refine xR [] [0, 1, 2, 7, 8] [] [slFeat false a, slFeat false b, I band, I (a.length : Int), I (b.length : Int)] [] [] trivial ?_
    refine xR [(3, .new 20)] [0, 1, 2, 7, 8, 9] [20] [slFeat false a, slFeat false b, I band, I (a.length : Int), I (b.length : Int), .arr 20] [some (.arr 1 (((a.length : Int) * (b.length : Int)).toNat) (fun _ => [I 0]))] [inR .i64 ((a.length : Int) * (b.length : Int)), (0 : Int) ≤ ((a.length : Int) * (b.length : Int)) ∧ (((a.length : Int) * (b.length : Int)) : Int) ≤ ((a.length : Int) * (b.length : Int)) ∧ (8 : Int) * ((a.length : Int) * (b.length : Int)) ≤ 281474976710656 ∧ ((a.length : Int) * (b.length : Int)) ≤ 9223372036854775807] ⟨(inR_i64 (by omega) (by omega)), ⟨(by omega), (by omega), (by omega), (by omega)⟩, trivial⟩ ?_
    refine x_seq ?_
    refine xR [] [0, 1, 2, 7, 8, 9, 10] [20] [slFeat false a, slFeat false b, I band, I (a.length : Int), I (b.length : Int), .arr 20, I 0] [some (.arr 1 (((a.length : Int) * (b.length : Int)).toNat) (fun _ => [I 0]))] [] trivial ?_
    refine x_block ?_
    refine x_weak [] (T := [(0, slFeat false a), (1, slFeat false b), (2, I band), (7, I (a.length : Int)), (8, I (b.length : Int)), (9, .arr 20), (10, I 0)]) (O := [(20, tAI (List.replicate (((a.length : Int) * (b.length : Int)).toNat) (0 : Int)))]) rfl (⟨.inl rfl, .inl rfl, .inl rfl, .inl rfl, .inl rfl, .inl rfl, .inl rfl, trivial⟩) (⟨.inr ⟨rfl, (by first | rfl | (simp; done) | (simp; omega) | omega), fun i_ hi_ => .inl (const_enc (enc := cI) rfl i_ hi_)⟩, trivial⟩) ?_
    refine x_loop (X := Int × (List Int)) (fun x => mkS [(0, slFeat false a), (1, slFeat false b), (2, I band), (7, I (a.length : Int)), (8, I (b.length : Int)), (9, .arr 20), (10, I x.1)] [(20, tAI x.2)]) (fun x => (0 ≤ x.1 ∧ x.1 ≤ (a.length : Int)) ∧ (flOk a b band x.2 (x.1.toNat * b.length)) ∧ True) (fun x => ((a.length : Int) - x.1).toNat) (0, (List.replicate (((a.length : Int) * (b.length : Int)).toNat) (0 : Int))) rfl (show (0 ≤ (0 : Int) ∧ (0 : Int) ≤ (a.length : Int)) ∧ (flOk a b band (List.replicate (((a.length : Int) * (b.length : Int)).toNat) (0 : Int)) ((0 : Int).toNat * b.length)) ∧ True from ⟨(by omega), (by exact ⟨by simp; omega, fun p q _ _ hk => by rw [show (0 : Int).toNat = 0 from rfl, Nat.zero_mul] at hk; omega⟩), trivial⟩) (fun x hI => ?_)
    obtain ⟨i, fl⟩ := x
    obtain ⟨hi0, hfl, _⟩ : (0 ≤ i ∧ i ≤ (a.length : Int)) ∧ (flOk a b band fl (i.toNat * b.length)) ∧ True := hI
    show XW _ _ _ _ (mkS [(0, slFeat false a), (1, slFeat false b), (2, I band), (7, I (a.length : Int)), (8, I (b.length : Int)), (9, .arr 20), (10, I i)] [(20, tAI fl)]) _ _
    refine x_seq ?_
    refine x_seq ?_
    by_cases h1 : i < (a.length : Int)
    ·have hi : i.toNat < a.length := by omega
     have hix : ((i.toNat : Nat) : Int) = i := by omega
     refine x_r [(2, .dec true)] [0, 1, 2, 7, 8, 9, 10, 23] [20] [slFeat false a, slFeat false b, I band, I (a.length : Int), I (b.length : Int), .arr 20, I i, Bv true] [some (tAI fl)] [i < (a.length : Int)] ⟨h1, trivial⟩ ?_
     refine xe_then ?_
     refine x_true rfl ?_
     refine x_skip ?_
     refine xe_then ?_
     refine x_seq ?_
     refine x_block ?_
     refine xR [] [0, 1, 2, 7, 8, 9, 10, 11] [20] [slFeat false a, slFeat false b, I band, I (a.length : Int), I (b.length : Int), .arr 20, I i, I 0] [some (tAI fl)] [] trivial ?_
     refine x_block ?_
     refine x_loop (X := Int × (List Int)) (fun x => mkS [(0, slFeat false a), (1, slFeat false b), (2, I band), (7, I (a.length : Int)), (8, I (b.length : Int)), (9, .arr 20), (10, I i), (11, I x.1)] [(20, tAI x.2)]) (fun x => (0 ≤ x.1 ∧ x.1 ≤ (b.length : Int)) ∧ (flOk a b band x.2 (i.toNat * b.length + x.1.toNat)) ∧ True) (fun x => ((b.length : Int) - x.1).toNat) (0, fl) rfl (show (0 ≤ (0 : Int) ∧ (0 : Int) ≤ (b.length : Int)) ∧ (flOk a b band fl (i.toNat * b.length + (0 : Int).toNat)) ∧ True from ⟨(by omega), (by exact hfl), trivial⟩) (fun x hI => ?_)
     obtain ⟨j, fl'⟩ := x
     obtain ⟨hj0, hin, _⟩ : (0 ≤ j ∧ j ≤ (b.length : Int)) ∧ (flOk a b band fl' (i.toNat * b.length + j.toNat)) ∧ True := hI
     show XW _ _ _ _ (mkS [(0, slFeat false a), (1, slFeat false b), (2, I band), (7, I (a.length : Int)), (8, I (b.length : Int)), (9, .arr 20), (10, I i), (11, I j)] [(20, tAI fl')]) _ _
     refine x_seq ?_
     refine x_seq ?_
     by_cases h2 : j < (b.length : Int)
     ·have hj : j.toNat < b.length := by omega
      have hjx : ((j.toNat : Nat) : Int) = j := by omega
      have hcb := costF_bd (hab.1 _ hi) (hab.2.1 _ hj)
      have hsb := sb_at hab hin hi hj
      rw [hix, hjx] at hsb
      have hol := hin.1
      have hlt := fl_lt (j := 0) hi hj
      have hpr : i * (b.length : Int) = ((i.toNat * b.length : Nat) : Int) := by rw [Int.natCast_mul, hix]
      have hpq : (i - 1) * (b.length : Int) = ((i.toNat * b.length : Nat) : Int) - b.length := by rw [Int.sub_mul, Int.one_mul, hpr]
      have hps := Nat.mul_le_mul (show i.toNat ≤ 72 by omega) (show b.length ≤ 72 by omega)
      have hpt : 1 ≤ i → b.length ≤ i.toNat * b.length := fun q => Nat.le_mul_of_pos_left _ (by omega)
      have hka : (i * (b.length : Int) + j).toNat = i.toNat * b.length + j.toNat := by omega
      have hn1 : 0 < i → 0 < j → 0 ≤ at_ fl' ((i - 1) * (b.length : Int) + j - 1).toNat := fun q1 q2 => fl_nn hab hin (by omega) (by omega) (by omega)
      have hn2 : 0 < i → 0 ≤ at_ fl' ((i - 1) * (b.length : Int) + j).toNat := fun q1 => fl_nn hab hin (by omega) (by omega) (by omega)
      have hn3 : 0 < j → 0 ≤ at_ fl' (i * (b.length : Int) + j - 1).toNat := fun q1 => fl_nn hab hin (by omega) (by omega) (by omega)
      refine x_r [(2, .dec true)] [0, 1, 2, 7, 8, 9, 10, 11, 28] [20] [slFeat false a, slFeat false b, I band, I (a.length : Int), I (b.length : Int), .arr 20, I i, I j, Bv true] [some (tAI fl')] [j < (b.length : Int)] ⟨h2, trivial⟩ ?_
      refine xe_then ?_
      refine x_true rfl ?_
      refine x_skip ?_
      refine xe_then ?_
      refine x_seq ?_
      refine x_block ?_
      refine xR [] [0, 1, 2, 7, 8, 9, 10, 11, 12] [20] [slFeat false a, slFeat false b, I band, I (a.length : Int), I (b.length : Int), .arr 20, I i, I j, I 1000000000] [some (tAI fl')] [] trivial ?_
      refine x_cut (X := Int) (fun x => mkS [(0, slFeat false a), (1, slFeat false b), (2, I band), (7, I (a.length : Int)), (8, I (b.length : Int)), (9, .arr 20), (10, I i), (11, I j), (12, I x)] [(20, tAI fl')]) (fun x => (x = sb0 i j) ∧ True) ?_ (fun x hI => ?_)
      ·refine x_seq ?_
       by_cases h3 : i = 0
       ·by_cases h4 : j = 0
        ·refine x_r [(1, .dec true), (4, .dec true)] [0, 1, 2, 7, 8, 9, 10, 11, 12, 36] [20] [slFeat false a, slFeat false b, I band, I (a.length : Int), I (b.length : Int), .arr 20, I i, I j, I 1000000000, Bv true] [some (tAI fl')] [i = 0, j = 0] ⟨h3, h4, trivial⟩ ?_
         refine xe_then ?_
         refine x_true rfl ?_
         refine x_r [] [0, 1, 2, 7, 8, 9, 10, 11, 12] [20] [slFeat false a, slFeat false b, I band, I (a.length : Int), I (b.length : Int), .arr 20, I i, I j, I 0] [some (tAI fl')] [] trivial ?_
         exact xe_cut 0 rfl (show (0 = sb0 i j) ∧ True from ⟨(by unfold sb0; split <;> omega), trivial⟩)
        refine x_r [(1, .dec true), (4, .dec false)] [0, 1, 2, 7, 8, 9, 10, 11, 12, 36] [20] [slFeat false a, slFeat false b, I band, I (a.length : Int), I (b.length : Int), .arr 20, I i, I j, I 1000000000, Bv false] [some (tAI fl')] [i = 0, ¬ (j = 0)] ⟨h3, h4, trivial⟩ ?_
        refine xe_then ?_
        refine x_false rfl ?_
        refine x_skip ?_
        refine xe_weak [] (T := [(0, slFeat false a), (1, slFeat false b), (2, I band), (7, I (a.length : Int)), (8, I (b.length : Int)), (9, .arr 20), (10, I i), (11, I j), (12, I 1000000000)]) (O := [(20, tAI fl')]) rfl (⟨.inl rfl, .inl rfl, .inl rfl, .inl rfl, .inl rfl, .inl rfl, .inl rfl, .inl rfl, .inl rfl, trivial⟩) (⟨.inl rfl, trivial⟩) (xe_cut 1000000000 rfl (show (1000000000 = sb0 i j) ∧ True from ⟨(by unfold sb0; split <;> omega), trivial⟩))
       refine x_r [(1, .dec false)] [0, 1, 2, 7, 8, 9, 10, 11, 12, 36] [20] [slFeat false a, slFeat false b, I band, I (a.length : Int), I (b.length : Int), .arr 20, I i, I j, I 1000000000, Bv false] [some (tAI fl')] [¬ (i = 0)] ⟨h3, trivial⟩ ?_
       refine xe_then ?_
       refine x_false rfl ?_
       refine x_skip ?_
       refine xe_weak [] (T := [(0, slFeat false a), (1, slFeat false b), (2, I band), (7, I (a.length : Int)), (8, I (b.length : Int)), (9, .arr 20), (10, I i), (11, I j), (12, I 1000000000)]) (O := [(20, tAI fl')]) rfl (⟨.inl rfl, .inl rfl, .inl rfl, .inl rfl, .inl rfl, .inl rfl, .inl rfl, .inl rfl, .inl rfl, trivial⟩) (⟨.inl rfl, trivial⟩) (xe_cut 1000000000 rfl (show (1000000000 = sb0 i j) ∧ True from ⟨(by unfold sb0; split <;> omega), trivial⟩))
      obtain ⟨q0, hxx⟩ : ∃ q0 : Int, q0 = x := ⟨x, rfl⟩
      subst hxx
      obtain ⟨hq0, _⟩ : (q0 = sb0 i j) ∧ True := hI
      show XW _ _ _ _ (mkS [(0, slFeat false a), (1, slFeat false b), (2, I band), (7, I (a.length : Int)), (8, I (b.length : Int)), (9, .arr 20), (10, I i), (11, I j), (12, I q0)] [(20, tAI fl')]) _ _
      refine x_cut (X := Int) (fun x => mkS [(0, slFeat false a), (1, slFeat false b), (2, I band), (7, I (a.length : Int)), (8, I (b.length : Int)), (9, .arr 20), (10, I i), (11, I j), (12, I x)] [(20, tAI fl')]) (fun x => (x = sb1 fl' b.length i j) ∧ True) ?_ (fun x hI => ?_)
      ·refine x_seq ?_
       by_cases h5 : 0 < i
       ·by_cases h6 : 0 < j
        ·refine x_r [(1, .dec true), (4, .dec true)] [0, 1, 2, 7, 8, 9, 10, 11, 12, 42] [20] [slFeat false a, slFeat false b, I band, I (a.length : Int), I (b.length : Int), .arr 20, I i, I j, I q0, Bv true] [some (tAI fl')] [0 < i, 0 < j] ⟨h5, h6, trivial⟩ ?_
         refine xe_then ?_
         refine x_true rfl ?_
         refine x_r [(11, .call [(true, .any), (true, .any)] true (I (min q0 (at_ fl' (((((i - 1) * (b.length : Int)) + j) - 1).toNat)))))] [0, 1, 2, 7, 8, 9, 10, 11, 12] [20] [slFeat false a, slFeat false b, I band, I (a.length : Int), I (b.length : Int), .arr 20, I i, I j, I (min q0 (at_ fl' (((((i - 1) * (b.length : Int)) + j) - 1).toNat)))] [some (tAI fl')] [inR .i64 (i - 1), inR .i64 ((i - 1) * (b.length : Int)), inR .i64 (((i - 1) * (b.length : Int)) + j), inR .i64 ((((i - 1) * (b.length : Int)) + j) - 1), (0 : Int) ≤ ((((i - 1) * (b.length : Int)) + j) - 1) ∧ ((((i - 1) * (b.length : Int)) + j) - 1) < (fl'.length : Int), ((((i - 1) * (b.length : Int)) + j) - 1).toNat < fl'.length, Con Tryz.prog 119 [I q0, I (at_ fl' (((((i - 1) * (b.length : Int)) + j) - 1).toNat))] true (I (min q0 (at_ fl' (((((i - 1) * (b.length : Int)) + j) - 1).toNat)))) ∧ True] ⟨(inR_i64 (by omega) (by omega)), (inR_i64 (by omega) (by omega)), (inR_i64 (by omega) (by omega)), (inR_i64 (by omega) (by omega)), ⟨(by omega), (by omega)⟩, (by omega), ⟨(l00Min_ok q0 (at_ fl' (((((i - 1) * (b.length : Int)) + j) - 1).toNat))), trivial⟩, trivial⟩ ?_
         exact xe_cut (min q0 (at_ fl' (((((i - 1) * (b.length : Int)) + j) - 1).toNat))) rfl (show ((min q0 (at_ fl' (((((i - 1) * (b.length : Int)) + j) - 1).toNat))) = sb1 fl' b.length i j) ∧ True from ⟨(by unfold sb1; split <;> omega), trivial⟩)
        refine x_r [(1, .dec true), (4, .dec false)] [0, 1, 2, 7, 8, 9, 10, 11, 12, 42] [20] [slFeat false a, slFeat false b, I band, I (a.length : Int), I (b.length : Int), .arr 20, I i, I j, I q0, Bv false] [some (tAI fl')] [0 < i, ¬ (0 < j)] ⟨h5, h6, trivial⟩ ?_
        refine xe_then ?_
        refine x_false rfl ?_
        refine x_skip ?_
        refine xe_weak [] (T := [(0, slFeat false a), (1, slFeat false b), (2, I band), (7, I (a.length : Int)), (8, I (b.length : Int)), (9, .arr 20), (10, I i), (11, I j), (12, I q0)]) (O := [(20, tAI fl')]) rfl (⟨.inl rfl, .inl rfl, .inl rfl, .inl rfl, .inl rfl, .inl rfl, .inl rfl, .inl rfl, .inl rfl, trivial⟩) (⟨.inl rfl, trivial⟩) (xe_cut q0 rfl (show (q0 = sb1 fl' b.length i j) ∧ True from ⟨(by unfold sb1; split <;> omega), trivial⟩))
       refine x_r [(1, .dec false)] [0, 1, 2, 7, 8, 9, 10, 11, 12, 42] [20] [slFeat false a, slFeat false b, I band, I (a.length : Int), I (b.length : Int), .arr 20, I i, I j, I q0, Bv false] [some (tAI fl')] [¬ (0 < i)] ⟨h5, trivial⟩ ?_
       refine xe_then ?_
       refine x_false rfl ?_
       refine x_skip ?_
       refine xe_weak [] (T := [(0, slFeat false a), (1, slFeat false b), (2, I band), (7, I (a.length : Int)), (8, I (b.length : Int)), (9, .arr 20), (10, I i), (11, I j), (12, I q0)]) (O := [(20, tAI fl')]) rfl (⟨.inl rfl, .inl rfl, .inl rfl, .inl rfl, .inl rfl, .inl rfl, .inl rfl, .inl rfl, .inl rfl, trivial⟩) (⟨.inl rfl, trivial⟩) (xe_cut q0 rfl (show (q0 = sb1 fl' b.length i j) ∧ True from ⟨(by unfold sb1; split <;> omega), trivial⟩))
      obtain ⟨q1, hxx⟩ : ∃ q1 : Int, q1 = x := ⟨x, rfl⟩
      subst hxx
      obtain ⟨hq1, _⟩ : (q1 = sb1 fl' b.length i j) ∧ True := hI
      show XW _ _ _ _ (mkS [(0, slFeat false a), (1, slFeat false b), (2, I band), (7, I (a.length : Int)), (8, I (b.length : Int)), (9, .arr 20), (10, I i), (11, I j), (12, I q1)] [(20, tAI fl')]) _ _
      refine x_cut (X := Int) (fun x => mkS [(0, slFeat false a), (1, slFeat false b), (2, I band), (7, I (a.length : Int)), (8, I (b.length : Int)), (9, .arr 20), (10, I i), (11, I j), (12, I x)] [(20, tAI fl')]) (fun x => (x = sb2 fl' b.length i j) ∧ True) ?_ (fun x hI => ?_)
      ·refine x_seq ?_
       by_cases h7 : 0 < i
       ·refine x_r [(1, .dec true)] [0, 1, 2, 7, 8, 9, 10, 11, 12, 56] [20] [slFeat false a, slFeat false b, I band, I (a.length : Int), I (b.length : Int), .arr 20, I i, I j, I q1, Bv true] [some (tAI fl')] [0 < i] ⟨h7, trivial⟩ ?_
        refine xe_then ?_
        refine x_true rfl ?_
        refine x_r [(10, .call [(true, .any), (true, .any)] true (I (min q1 (at_ fl' ((((i - 1) * (b.length : Int)) + j).toNat)))))] [0, 1, 2, 7, 8, 9, 10, 11, 12] [20] [slFeat false a, slFeat false b, I band, I (a.length : Int), I (b.length : Int), .arr 20, I i, I j, I (min q1 (at_ fl' ((((i - 1) * (b.length : Int)) + j).toNat)))] [some (tAI fl')] [inR .i64 (i - 1), inR .i64 ((i - 1) * (b.length : Int)), inR .i64 (((i - 1) * (b.length : Int)) + j), (0 : Int) ≤ (((i - 1) * (b.length : Int)) + j) ∧ (((i - 1) * (b.length : Int)) + j) < (fl'.length : Int), (((i - 1) * (b.length : Int)) + j).toNat < fl'.length, Con Tryz.prog 119 [I q1, I (at_ fl' ((((i - 1) * (b.length : Int)) + j).toNat))] true (I (min q1 (at_ fl' ((((i - 1) * (b.length : Int)) + j).toNat)))) ∧ True] ⟨(inR_i64 (by omega) (by omega)), (inR_i64 (by omega) (by omega)), (inR_i64 (by omega) (by omega)), ⟨(by omega), (by omega)⟩, (by omega), ⟨(l00Min_ok q1 (at_ fl' ((((i - 1) * (b.length : Int)) + j).toNat))), trivial⟩, trivial⟩ ?_
        exact xe_cut (min q1 (at_ fl' ((((i - 1) * (b.length : Int)) + j).toNat))) rfl (show ((min q1 (at_ fl' ((((i - 1) * (b.length : Int)) + j).toNat))) = sb2 fl' b.length i j) ∧ True from ⟨(by unfold sb2; split <;> omega), trivial⟩)
       refine x_r [(1, .dec false)] [0, 1, 2, 7, 8, 9, 10, 11, 12, 56] [20] [slFeat false a, slFeat false b, I band, I (a.length : Int), I (b.length : Int), .arr 20, I i, I j, I q1, Bv false] [some (tAI fl')] [¬ (0 < i)] ⟨h7, trivial⟩ ?_
       refine xe_then ?_
       refine x_false rfl ?_
       refine x_skip ?_
       refine xe_weak [] (T := [(0, slFeat false a), (1, slFeat false b), (2, I band), (7, I (a.length : Int)), (8, I (b.length : Int)), (9, .arr 20), (10, I i), (11, I j), (12, I q1)]) (O := [(20, tAI fl')]) rfl (⟨.inl rfl, .inl rfl, .inl rfl, .inl rfl, .inl rfl, .inl rfl, .inl rfl, .inl rfl, .inl rfl, trivial⟩) (⟨.inl rfl, trivial⟩) (xe_cut q1 rfl (show (q1 = sb2 fl' b.length i j) ∧ True from ⟨(by unfold sb2; split <;> omega), trivial⟩))
      obtain ⟨q2, hxx⟩ : ∃ q2 : Int, q2 = x := ⟨x, rfl⟩
      subst hxx
      obtain ⟨hq2, _⟩ : (q2 = sb2 fl' b.length i j) ∧ True := hI
      show XW _ _ _ _ (mkS [(0, slFeat false a), (1, slFeat false b), (2, I band), (7, I (a.length : Int)), (8, I (b.length : Int)), (9, .arr 20), (10, I i), (11, I j), (12, I q2)] [(20, tAI fl')]) _ _
      refine x_cut (X := Int) (fun x => mkS [(0, slFeat false a), (1, slFeat false b), (2, I band), (7, I (a.length : Int)), (8, I (b.length : Int)), (9, .arr 20), (10, I i), (11, I j), (12, I x)] [(20, tAI fl')]) (fun x => (x = sb3 fl' b.length i j) ∧ True) ?_ (fun x hI => ?_)
      ·refine x_seq ?_
       by_cases h8 : 0 < j
       ·refine x_r [(1, .dec true)] [0, 1, 2, 7, 8, 9, 10, 11, 12, 69] [20] [slFeat false a, slFeat false b, I band, I (a.length : Int), I (b.length : Int), .arr 20, I i, I j, I q2, Bv true] [some (tAI fl')] [0 < j] ⟨h8, trivial⟩ ?_
        refine xe_then ?_
        refine x_true rfl ?_
        refine x_r [(10, .call [(true, .any), (true, .any)] true (I (min q2 (at_ fl' ((((i * (b.length : Int)) + j) - 1).toNat)))))] [0, 1, 2, 7, 8, 9, 10, 11, 12] [20] [slFeat false a, slFeat false b, I band, I (a.length : Int), I (b.length : Int), .arr 20, I i, I j, I (min q2 (at_ fl' ((((i * (b.length : Int)) + j) - 1).toNat)))] [some (tAI fl')] [inR .i64 (i * (b.length : Int)), inR .i64 ((i * (b.length : Int)) + j), inR .i64 (((i * (b.length : Int)) + j) - 1), (0 : Int) ≤ (((i * (b.length : Int)) + j) - 1) ∧ (((i * (b.length : Int)) + j) - 1) < (fl'.length : Int), (((i * (b.length : Int)) + j) - 1).toNat < fl'.length, Con Tryz.prog 119 [I q2, I (at_ fl' ((((i * (b.length : Int)) + j) - 1).toNat))] true (I (min q2 (at_ fl' ((((i * (b.length : Int)) + j) - 1).toNat)))) ∧ True] ⟨(inR_i64 (by omega) (by omega)), (inR_i64 (by omega) (by omega)), (inR_i64 (by omega) (by omega)), ⟨(by omega), (by omega)⟩, (by omega), ⟨(l00Min_ok q2 (at_ fl' ((((i * (b.length : Int)) + j) - 1).toNat))), trivial⟩, trivial⟩ ?_
        exact xe_cut (min q2 (at_ fl' ((((i * (b.length : Int)) + j) - 1).toNat))) rfl (show ((min q2 (at_ fl' ((((i * (b.length : Int)) + j) - 1).toNat))) = sb3 fl' b.length i j) ∧ True from ⟨(by unfold sb3; split <;> omega), trivial⟩)
       refine x_r [(1, .dec false)] [0, 1, 2, 7, 8, 9, 10, 11, 12, 69] [20] [slFeat false a, slFeat false b, I band, I (a.length : Int), I (b.length : Int), .arr 20, I i, I j, I q2, Bv false] [some (tAI fl')] [¬ (0 < j)] ⟨h8, trivial⟩ ?_
       refine xe_then ?_
       refine x_false rfl ?_
       refine x_skip ?_
       refine xe_weak [] (T := [(0, slFeat false a), (1, slFeat false b), (2, I band), (7, I (a.length : Int)), (8, I (b.length : Int)), (9, .arr 20), (10, I i), (11, I j), (12, I q2)]) (O := [(20, tAI fl')]) rfl (⟨.inl rfl, .inl rfl, .inl rfl, .inl rfl, .inl rfl, .inl rfl, .inl rfl, .inl rfl, .inl rfl, trivial⟩) (⟨.inl rfl, trivial⟩) (xe_cut q2 rfl (show (q2 = sb3 fl' b.length i j) ∧ True from ⟨(by unfold sb3; split <;> omega), trivial⟩))
      obtain ⟨q3, hxx⟩ : ∃ q3 : Int, q3 = x := ⟨x, rfl⟩
      subst hxx
      obtain ⟨hq3, _⟩ : (q3 = sb3 fl' b.length i j) ∧ True := hI
      show XW _ _ _ _ (mkS [(0, slFeat false a), (1, slFeat false b), (2, I band), (7, I (a.length : Int)), (8, I (b.length : Int)), (9, .arr 20), (10, I i), (11, I j), (12, I q3)] [(20, tAI fl')]) _ _
      refine x_seq ?_
      by_cases h9 : q3 = 1000000000
      ·refine x_r [(1, .dec true)] [0, 1, 2, 7, 8, 9, 10, 11, 12, 90] [20] [slFeat false a, slFeat false b, I band, I (a.length : Int), I (b.length : Int), .arr 20, I i, I j, I q3, Bv true] [some (tAI fl')] [q3 = 1000000000] ⟨h9, trivial⟩ ?_
       refine xe_then ?_
       refine x_true rfl ?_
       refine x_r [] [0, 1, 2, 7, 8, 9, 10, 11] [20] [slFeat false a, slFeat false b, I band, I (a.length : Int), I (b.length : Int), .arr 20, I i, I j] [some (.arr 1 fl'.length (fun q => bif Nat.beq q (((i * (b.length : Int)) + j).toNat) then [I 1000000000] else (fI fl') q))] [inR .i64 (i * (b.length : Int)), inR .i64 ((i * (b.length : Int)) + j), (0 : Int) ≤ ((i * (b.length : Int)) + j) ∧ ((i * (b.length : Int)) + j) < (fl'.length : Int), ((i * (b.length : Int)) + j).toNat < fl'.length] ⟨(inR_i64 (by omega) (by omega)), (inR_i64 (by omega) (by omega)), ⟨(by omega), (by omega)⟩, (by omega), trivial⟩ ?_
       refine xe_block 3 ?_
       refine xe_then ?_
       refine x_weak [] (T := [(0, slFeat false a), (1, slFeat false b), (2, I band), (7, I (a.length : Int)), (8, I (b.length : Int)), (9, .arr 20), (10, I i), (11, I j)]) (O := [(20, tAI (fl'.set (((i * (b.length : Int)) + j).toNat) 1000000000))]) rfl (⟨.inl rfl, .inl rfl, .inl rfl, .inl rfl, .inl rfl, .inl rfl, .inl rfl, .inl rfl, trivial⟩) (⟨.inr ⟨rfl, (by first | rfl | (simp; done) | (simp; omega) | omega), fun i_ hi_ => .inl (upd_enc (enc := cI) rfl i_ hi_)⟩, trivial⟩) ?_
       refine x_r [] [0, 1, 2, 7, 8, 9, 10, 11] [20] [slFeat false a, slFeat false b, I band, I (a.length : Int), I (b.length : Int), .arr 20, I i, I (j + 1)] [some (tAI (fl'.set (((i * (b.length : Int)) + j).toNat) 1000000000))] [inR .i64 (j + 1)] ⟨(inR_i64 (by omega) (by omega)), trivial⟩ ?_
       exact xe_again ((j + 1), (fl'.set (((i * (b.length : Int)) + j).toNat) 1000000000)) rfl (show (0 ≤ (j + 1) ∧ (j + 1) ≤ (b.length : Int)) ∧ (flOk a b band (fl'.set (((i * (b.length : Int)) + j).toNat) 1000000000) (i.toNat * b.length + (j + 1).toNat)) ∧ True from ⟨(by omega), (by rw [show (j + 1).toNat = j.toNat + 1 from by omega]; exact fl_step hin hi hj hka (by rw [hsb.2, ← hq3]; split <;> omega)), trivial⟩) (by first | (show (((b.length : Int) - (j + 1)).toNat : Nat) < ((b.length : Int) - j).toNat; omega) | (dsimp only; omega))
      by_cases h10 : band < ((i - j).natAbs : Int)
      ·refine x_r [(1, .dec false), (6, .call [(true, .any)] true (I ((i - j).natAbs : Int))), (8, .dec true)] [0, 1, 2, 7, 8, 9, 10, 11, 12, 90] [20] [slFeat false a, slFeat false b, I band, I (a.length : Int), I (b.length : Int), .arr 20, I i, I j, I q3, Bv true] [some (tAI fl')] [¬ (q3 = 1000000000), inR .i64 (i - j), Con Tryz.prog 139 [I (i - j)] true (I ((i - j).natAbs : Int)) ∧ True, band < ((i - j).natAbs : Int)] ⟨h9, (inR_i64 (by omega) (by omega)), ⟨(l09Size_ok (i - j) (by omega)), trivial⟩, h10, trivial⟩ ?_
       refine xe_then ?_
       refine x_true rfl ?_
       refine x_r [] [0, 1, 2, 7, 8, 9, 10, 11] [20] [slFeat false a, slFeat false b, I band, I (a.length : Int), I (b.length : Int), .arr 20, I i, I j] [some (.arr 1 fl'.length (fun q => bif Nat.beq q (((i * (b.length : Int)) + j).toNat) then [I 1000000000] else (fI fl') q))] [inR .i64 (i * (b.length : Int)), inR .i64 ((i * (b.length : Int)) + j), (0 : Int) ≤ ((i * (b.length : Int)) + j) ∧ ((i * (b.length : Int)) + j) < (fl'.length : Int), ((i * (b.length : Int)) + j).toNat < fl'.length] ⟨(inR_i64 (by omega) (by omega)), (inR_i64 (by omega) (by omega)), ⟨(by omega), (by omega)⟩, (by omega), trivial⟩ ?_
       refine xe_block 3 ?_
       refine xe_then ?_
       refine x_weak [] (T := [(0, slFeat false a), (1, slFeat false b), (2, I band), (7, I (a.length : Int)), (8, I (b.length : Int)), (9, .arr 20), (10, I i), (11, I j)]) (O := [(20, tAI (fl'.set (((i * (b.length : Int)) + j).toNat) 1000000000))]) rfl (⟨.inl rfl, .inl rfl, .inl rfl, .inl rfl, .inl rfl, .inl rfl, .inl rfl, .inl rfl, trivial⟩) (⟨.inr ⟨rfl, (by first | rfl | (simp; done) | (simp; omega) | omega), fun i_ hi_ => .inl (upd_enc (enc := cI) rfl i_ hi_)⟩, trivial⟩) ?_
       refine x_r [] [0, 1, 2, 7, 8, 9, 10, 11] [20] [slFeat false a, slFeat false b, I band, I (a.length : Int), I (b.length : Int), .arr 20, I i, I (j + 1)] [some (tAI (fl'.set (((i * (b.length : Int)) + j).toNat) 1000000000))] [inR .i64 (j + 1)] ⟨(inR_i64 (by omega) (by omega)), trivial⟩ ?_
       exact xe_again ((j + 1), (fl'.set (((i * (b.length : Int)) + j).toNat) 1000000000)) rfl (show (0 ≤ (j + 1) ∧ (j + 1) ≤ (b.length : Int)) ∧ (flOk a b band (fl'.set (((i * (b.length : Int)) + j).toNat) 1000000000) (i.toNat * b.length + (j + 1).toNat)) ∧ True from ⟨(by omega), (by rw [show (j + 1).toNat = j.toNat + 1 from by omega]; exact fl_step hin hi hj hka (by rw [hsb.2, ← hq3]; split <;> omega)), trivial⟩) (by first | (show (((b.length : Int) - (j + 1)).toNat : Nat) < ((b.length : Int) - j).toNat; omega) | (dsimp only; omega))
      refine x_r [(1, .dec false), (6, .call [(true, .any)] true (I ((i - j).natAbs : Int))), (8, .dec false)] [0, 1, 2, 7, 8, 9, 10, 11, 12, 90] [20] [slFeat false a, slFeat false b, I band, I (a.length : Int), I (b.length : Int), .arr 20, I i, I j, I q3, Bv false] [some (tAI fl')] [¬ (q3 = 1000000000), inR .i64 (i - j), Con Tryz.prog 139 [I (i - j)] true (I ((i - j).natAbs : Int)) ∧ True, ¬ (band < ((i - j).natAbs : Int))] ⟨h9, (inR_i64 (by omega) (by omega)), ⟨(l09Size_ok (i - j) (by omega)), trivial⟩, h10, trivial⟩ ?_
      refine xe_then ?_
      refine x_false rfl ?_
      refine x_r [(15, .call [(true, .any), (true, .any)] true (I (costF (at_ a i.toNat) (at_ b j.toNat))))] [0, 1, 2, 7, 8, 9, 10, 11] [20] [slFeat false a, slFeat false b, I band, I (a.length : Int), I (b.length : Int), .arr 20, I i, I j] [some (.arr 1 fl'.length (fun q => bif Nat.beq q (((i * (b.length : Int)) + j).toNat) then [I (q3 + (costF (at_ a i.toNat) (at_ b j.toNat)))] else (fI fl') q))] [inR .i64 (i * (b.length : Int)), inR .i64 ((i * (b.length : Int)) + j), (0 : Int) ≤ i ∧ i < (a.length : Int), (0 : Int) ≤ j ∧ j < (b.length : Int), Con Tryz.prog 140 [agFeat (at_ a i.toNat), agFeat (at_ b j.toNat)] true (I (costF (at_ a i.toNat) (at_ b j.toNat))) ∧ True, inR .i64 (q3 + (costF (at_ a i.toNat) (at_ b j.toNat))), (0 : Int) ≤ ((i * (b.length : Int)) + j) ∧ ((i * (b.length : Int)) + j) < (fl'.length : Int), ((i * (b.length : Int)) + j).toNat < fl'.length] ⟨(inR_i64 (by omega) (by omega)), (inR_i64 (by omega) (by omega)), ⟨(by omega), (by omega)⟩, ⟨(by omega), (by omega)⟩, ⟨(l09Cost_ok (at_ a i.toNat) (at_ b j.toNat) (by first | exact hab.1 _ (by omega) | exact hab.2.1 _ (by omega)) (by first | exact hab.1 _ (by omega) | exact hab.2.1 _ (by omega))), trivial⟩, (inR_i64 (by omega) (by omega)), ⟨(by omega), (by omega)⟩, (by omega), trivial⟩ ?_
      refine xe_block 3 ?_
      refine xe_then ?_
      refine x_weak [] (T := [(0, slFeat false a), (1, slFeat false b), (2, I band), (7, I (a.length : Int)), (8, I (b.length : Int)), (9, .arr 20), (10, I i), (11, I j)]) (O := [(20, tAI (fl'.set (((i * (b.length : Int)) + j).toNat) (q3 + (costF (at_ a i.toNat) (at_ b j.toNat)))))]) rfl (⟨.inl rfl, .inl rfl, .inl rfl, .inl rfl, .inl rfl, .inl rfl, .inl rfl, .inl rfl, trivial⟩) (⟨.inr ⟨rfl, (by first | rfl | (simp; done) | (simp; omega) | omega), fun i_ hi_ => .inl (upd_enc (enc := cI) rfl i_ hi_)⟩, trivial⟩) ?_
      refine x_r [] [0, 1, 2, 7, 8, 9, 10, 11] [20] [slFeat false a, slFeat false b, I band, I (a.length : Int), I (b.length : Int), .arr 20, I i, I (j + 1)] [some (tAI (fl'.set (((i * (b.length : Int)) + j).toNat) (q3 + (costF (at_ a i.toNat) (at_ b j.toNat)))))] [inR .i64 (j + 1)] ⟨(inR_i64 (by omega) (by omega)), trivial⟩ ?_
      exact xe_again ((j + 1), (fl'.set (((i * (b.length : Int)) + j).toNat) (q3 + (costF (at_ a i.toNat) (at_ b j.toNat))))) rfl (show (0 ≤ (j + 1) ∧ (j + 1) ≤ (b.length : Int)) ∧ (flOk a b band (fl'.set (((i * (b.length : Int)) + j).toNat) (q3 + (costF (at_ a i.toNat) (at_ b j.toNat)))) (i.toNat * b.length + (j + 1).toNat)) ∧ True from ⟨(by omega), (by rw [show (j + 1).toNat = j.toNat + 1 from by omega]; exact fl_step hin hi hj hka (by rw [hsb.2, ← hq3]; split <;> omega)), trivial⟩) (by first | (show (((b.length : Int) - (j + 1)).toNat : Nat) < ((b.length : Int) - j).toNat; omega) | (dsimp only; omega))
     have hje : j.toNat = b.length := by omega
     refine x_r [(2, .dec false)] [0, 1, 2, 7, 8, 9, 10, 11, 28] [20] [slFeat false a, slFeat false b, I band, I (a.length : Int), I (b.length : Int), .arr 20, I i, I j, Bv false] [some (tAI fl')] [¬ (j < (b.length : Int))] ⟨h2, trivial⟩ ?_
     refine xe_then ?_
     refine x_false rfl ?_
     refine x_exit ?_
     refine xe_exit_then ?_
     refine xe_loop_exit ?_
     refine xe_exit_same ?_
     refine xe_block 1 ?_
     refine xe_then ?_
     refine x_r [] [0, 1, 2, 7, 8, 9, 10] [20] [slFeat false a, slFeat false b, I band, I (a.length : Int), I (b.length : Int), .arr 20, I (i + 1)] [some (tAI fl')] [inR .i64 (i + 1)] ⟨(inR_i64 (by omega) (by omega)), trivial⟩ ?_
     exact xe_again ((i + 1), fl') rfl (show (0 ≤ (i + 1) ∧ (i + 1) ≤ (a.length : Int)) ∧ (flOk a b band fl' ((i + 1).toNat * b.length)) ∧ True from ⟨(by omega), (by rw [show (i + 1).toNat = i.toNat + 1 from by omega]; exact fl_done hin hje), trivial⟩) (by first | (show (((a.length : Int) - (i + 1)).toNat : Nat) < ((a.length : Int) - i).toNat; omega) | (dsimp only; omega))
    have hie : i.toNat = a.length := by omega
    rw [hie] at hfl
    refine x_r [(2, .dec false)] [0, 1, 2, 7, 8, 9, 10, 23] [20] [slFeat false a, slFeat false b, I band, I (a.length : Int), I (b.length : Int), .arr 20, I i, Bv false] [some (tAI fl)] [¬ (i < (a.length : Int))] ⟨h1, trivial⟩ ?_
    refine xe_then ?_
    refine x_false rfl ?_
    refine x_exit ?_
    refine xe_exit_then ?_
    refine xe_loop_exit ?_
    refine xe_exit_same ?_
    refine xe_then ?_
    refine xR [] [6] [20] [.arr 20] [some (tAI fl)] [] trivial ?_
    refine x_ret ?_
    refine xe_end fl (show (flOk a b band fl (a.length * b.length)) ∧ (True) from ⟨(by first | assumption | exact hfl), trivial⟩) (trivial) (.arr 20) (by kernel_rfl) (.inr ⟨(fun _ => rfl), rfl, rfl, fun i _ => .inl rfl⟩) (fun _ => rfl) (fun _ => (tagI true _))
  obtain ⟨out, ⟨hh0, _⟩, hc⟩ := hh
  exact ⟨out, hh0, hc⟩



-- spec.l09Least
theorem l09Least_ok (a : List Feat) (b : List Feat) (band : Int) (hab : okAB a b) (hbd : 0 ≤ band ∧ band ≤ 1000) (h1 : 1 ≤ a.length ∧ 1 ≤ b.length) : ∃ (v : Int), (v = cv farS a b band (a.length - 1) (b.length - 1)) ∧ Con Tryz.prog 60 [slFeat false a, slFeat false b, I band] true (I v) := by
  have hh : ∃ r : Int, ((r = cv farS a b band (a.length - 1) (b.length - 1)) ∧ (True)) ∧ CallOK Tryz.prog 60 [slFeat false a, slFeat false b, I band] (lookO []) true (I r) (lookO []) := by
    refine fn_okX (Φ := fun r : Int => (r = cv farS a b band (a.length - 1) (b.length - 1)) ∧ (True)) [] (fun r => []) (fn := Tryz.f60) (nt := 18) Tryz.func60 rfl rfl (args := [slFeat false a, slFeat false b, I band]) rfl (allcons (.inl ⟨rfl, tagFeat false _⟩) (allcons (.inl ⟨rfl, tagFeat false _⟩) (allcons (.inl ⟨rfl, trivial⟩) allnil))) (res := fun r => I r) ?_
    refine xR [] [0, 1, 2] [] [slFeat false a, slFeat false b, I band] [] [] trivial ?_
    refine x_seq ?_
    obtain ⟨out_1, hx1_0, hc1⟩ := l09Table_ok a b band hab (by omega)
    have hls := fl_last hx1_0 h1.1 h1.2
    have hlq := Nat.mul_le_mul hab.2.2.1 hab.2.2.2
    rw [← hx1_0.1] at hlq
    refine x_r [(3, .call [(true, .any), (true, .any), (true, .any)] true (slI true out_1))] [7] [] [slI true out_1] [] [Con Tryz.prog 99 [slFeat false a, slFeat false b, I band] true (slI true out_1) ∧ True] ⟨⟨hc1, trivial⟩, trivial⟩ ?_
    refine xe_then ?_
    refine xR [] [6] [] [I (at_ out_1 (((out_1.length : Int) - 1).toNat))] [] [inR .i64 ((out_1.length : Int) - 1), (0 : Int) ≤ ((out_1.length : Int) - 1) ∧ ((out_1.length : Int) - 1) < (out_1.length : Int)] ⟨(inR_i64 (by omega) (by omega)), ⟨(by omega), (by omega)⟩, trivial⟩ ?_
    refine x_ret ?_
    refine xe_end (at_ out_1 (((out_1.length : Int) - 1).toNat)) (show ((at_ out_1 (((out_1.length : Int) - 1).toNat)) = cv farS a b band (a.length - 1) (b.length - 1)) ∧ (True) from ⟨(by (rw [← hls.1]; congr 1; omega)), trivial⟩) (trivial) (I (at_ out_1 (((out_1.length : Int) - 1).toNat))) (by kernel_rfl) (.inl rfl) (fun _ => rfl) (fun _ => trivial)
  obtain ⟨v, ⟨hh0, _⟩, hc⟩ := hh
  exact ⟨v, hh0, hc⟩



-- spec.l11Matches
theorem l11Matches_ok (s : Store) (feats : List Feat) (hst : okStore' s = true) (okf : okFeats feats 72 = true) (h18 : s.Templates.length ≤ 18) : ∃ (v : List Match), (v = mtS s feats s.Templates.length) ∧ Con Tryz.prog 28 [.ptr false [I s.Band, slTemplate false s.Templates], slFeat false feats] true (slMatch true v) := by
  have hh : ∃ r : (List Match), ((r = mtS s feats s.Templates.length) ∧ (True)) ∧ CallOK Tryz.prog 28 [.ptr false [I s.Band, slTemplate false s.Templates], slFeat false feats] (lookO []) true (slMatch true r) (lookO []) := by
    refine fn_okX (Φ := fun r : (List Match) => (r = mtS s feats s.Templates.length) ∧ (True)) [] (fun r => []) (fn := Tryz.f28) (nt := 51) Tryz.func28 rfl rfl (args := [.ptr false [I s.Band, slTemplate false s.Templates], slFeat false feats]) rfl (allcons (.inl ⟨rfl, by simp [tagged, taggedL, tagTemplate]⟩) (allcons (.inl ⟨rfl, tagFeat false _⟩) allnil)) (res := fun r => slMatch true r) ?_
    refine xR [] [0, 1] [] [.ptr false [I s.Band, slTemplate false s.Templates], slFeat false feats] [] [] trivial ?_
    refine xR [(0, .new 7)] [0, 1, 5] [7] [.ptr false [I s.Band, slTemplate false s.Templates], slFeat false feats, .arr 7] [some (.arr 2 0 (litF [] 2))] [] trivial ?_
    refine x_seq ?_
    refine xR [] [0, 1, 5, 6] [7] [.ptr false [I s.Band, slTemplate false s.Templates], slFeat false feats, .arr 7, I 0] [some (.arr 2 0 (litF [] 2))] [] trivial ?_
    refine x_block ?_
    refine x_weak [] (T := [(0, .ptr false [I s.Band, slTemplate false s.Templates]), (1, slFeat false feats), (5, .arr 7), (6, I 0)]) (O := [(7, tAMatch ([] : List Match))]) rfl (⟨.inl rfl, .inl rfl, .inl rfl, .inl rfl, trivial⟩) (⟨.inr ⟨rfl, (by first | rfl | (simp; done) | (simp; omega) | omega), fun i_ hi_ => absurd hi_ (Nat.not_lt_zero _)⟩, trivial⟩) ?_
    refine x_loop (X := (List Match) × Int) (fun x => mkS [(0, .ptr false [I s.Band, slTemplate false s.Templates]), (1, slFeat false feats), (5, .arr 7), (6, I x.2)] [(7, tAMatch x.1)]) (fun x => (0 ≤ x.2 ∧ x.2 ≤ (s.Templates.length : Int)) ∧ (x.1 = mtS s feats x.2.toNat) ∧ True) (fun x => ((s.Templates.length : Int) - x.2).toNat) (([] : List Match), 0) rfl (show (0 ≤ (0 : Int) ∧ (0 : Int) ≤ (s.Templates.length : Int)) ∧ (([] : List Match) = mtS s feats (0 : Int).toNat) ∧ True from ⟨(by omega), (by rfl), trivial⟩) (fun x hI => ?_)
    obtain ⟨ls, i⟩ := x
    obtain ⟨hi0, hls, _⟩ : (0 ≤ i ∧ i ≤ (s.Templates.length : Int)) ∧ (ls = mtS s feats i.toNat) ∧ True := hI
    show XW _ _ _ _ (mkS [(0, .ptr false [I s.Band, slTemplate false s.Templates]), (1, slFeat false feats), (5, .arr 7), (6, I i)] [(7, tAMatch ls)]) _ _
    refine x_seq ?_
    refine x_seq ?_
    by_cases h1 : i < (s.Templates.length : Int)
    ·have hi : i.toNat < s.Templates.length := by omega
     have hix : ((i.toNat : Nat) : Int) = i := by omega
     have htm := (okStore_iff.1 hst).2.2 _ hi
     have hts : okFeats (at_ s.Templates i.toNat).Feats 72 = true := by simp only [okTm, Bool.and_eq_true] at htm; exact htm.2
     have htn := okFeats_n hts
     have hfn := okFeats_n okf
     have hml : ls.length ≤ i.toNat := by rw [hls]; exact mtS_len s feats _
     have hnx : (i + 1).toNat = i.toNat + 1 := by omega
     have hsb := (okStore_iff.1 hst).1
     refine x_r [(6, .dec true)] [0, 1, 5, 6, 14] [7] [.ptr false [I s.Band, slTemplate false s.Templates], slFeat false feats, .arr 7, I i, Bv true] [some (tAMatch ls)] [i < (s.Templates.length : Int)] ⟨h1, trivial⟩ ?_
     refine xe_then ?_
     refine x_true rfl ?_
     refine x_skip ?_
     refine xe_then ?_
     refine x_seq ?_
     refine x_block ?_
     refine x_seq ?_
     rcases Bool.eq_false_or_eq_true (inB s.Band 0 72 && decide (((((feats.length : Int) - (((at_ s.Templates i.toNat).Feats).length : Int)).natAbs : Int) ≤ s.Band))) with h2 | h2
     ·have hin : inS s feats i.toNat = true := by first | exact h2 | (unfold inS; rw [show ((feats.length : Int) - ((at_ s.Templates i.toNat).Feats.length : Int)).natAbs = (((at_ s.Templates i.toNat).Feats.length : Int) - (feats.length : Int)).natAbs from by omega]; exact h2)
      have hcv := mt_cv okf htm hin
      have hms := mt_y hin
      refine x_r [(13, .call [(true, .any), (true, .any), (true, .any)] true (Bv true))] [0, 1, 5, 6, 30] [7] [.ptr false [I s.Band, slTemplate false s.Templates], slFeat false feats, .arr 7, I i, Bv true] [some (tAMatch ls)] [(0 : Int) ≤ i ∧ i < (s.Templates.length : Int), Con Tryz.prog 59 [slFeat false feats, slFeat false ((at_ s.Templates i.toNat).Feats), I s.Band] true (Bv true) ∧ True] ⟨⟨(by omega), (by omega)⟩, ⟨(con_bool h2 (l10In_ok feats ((at_ s.Templates i.toNat).Feats) s.Band (by omega) (by omega))), trivial⟩, trivial⟩ ?_
      refine xe_then ?_
      refine x_true rfl ?_
      obtain ⟨v_1, hx1_0, hc1⟩ := l09Least_ok feats ((at_ s.Templates i.toNat).Feats) s.Band (okAB_of okf hts) (by omega) (by omega)
      have hel : v_1 = (mtM s feats i.toNat).Cost := hx1_0
      refine x_r [(15, .call [(true, .any), (true, .any), (true, .any)] true (I v_1)), (17, .new 48), (18, .new 49)] [0, 1, 5, 6] [49] [.ptr false [I s.Band, slTemplate false s.Templates], slFeat false feats, .arr 49, I i] [some (.arr 2 (ls.length + 1) (catF ls.length (fMatch ls) (litF [I i, I v_1] 2)))] [(0 : Int) ≤ i ∧ i < (s.Templates.length : Int), Con Tryz.prog 60 [slFeat false feats, slFeat false ((at_ s.Templates i.toNat).Feats), I s.Band] true (I v_1) ∧ True, (ls.length + 1) * 16 ≤ 140737488355328] ⟨⟨(by omega), (by omega)⟩, ⟨hc1, trivial⟩, (by omega), trivial⟩ ?_
      refine xe_block 1 ?_
      refine xe_then ?_
      refine x_r [] [0, 1, 5, 6] [49] [.ptr false [I s.Band, slTemplate false s.Templates], slFeat false feats, .arr 49, I (i + 1)] [some (.arr 2 (ls.length + 1) (catF ls.length (fMatch ls) (litF [I i, I v_1] 2)))] [inR .i64 (i + 1)] ⟨(inR_i64 (by omega) (by omega)), trivial⟩ ?_
      refine xe_weak [(7, 49)] (T := [(0, .ptr false [I s.Band, slTemplate false s.Templates]), (1, slFeat false feats), (5, .arr 7), (6, I (i + 1))]) (O := [(7, tAMatch (ls ++ [(Match.mk i v_1)]))]) rfl (⟨.inl rfl, .inl rfl, .inl rfl, .inl rfl, trivial⟩) (⟨.inr ⟨rfl, (by first | rfl | (simp; done) | (simp; omega) | omega), fun i_ hi_ => .inl (cat_snoc (enc := cMatch) (xs := ls) rfl i_ hi_)⟩, trivial⟩) (xe_again ((ls ++ [(Match.mk i v_1)]), (i + 1)) rfl (show (0 ≤ (i + 1) ∧ (i + 1) ≤ (s.Templates.length : Int)) ∧ ((ls ++ [(Match.mk i v_1)]) = mtS s feats (i + 1).toNat) ∧ True from ⟨(by omega), (by (rw [hnx, hls, hms]; first | done | rfl | (rw [hel]; unfold mtM; rw [hix]))), trivial⟩) (by first | (show (((s.Templates.length : Int) - (i + 1)).toNat : Nat) < ((s.Templates.length : Int) - i).toNat; omega) | (dsimp only; omega)))
     have hin : ¬ inS s feats i.toNat = true := by first | (unfold inS; rw [h2]; decide) | (unfold inS; rw [show ((feats.length : Int) - ((at_ s.Templates i.toNat).Feats.length : Int)).natAbs = (((at_ s.Templates i.toNat).Feats.length : Int) - (feats.length : Int)).natAbs from by omega, h2]; decide)
     have hms := mt_n hin
     refine x_r [(13, .call [(true, .any), (true, .any), (true, .any)] true (Bv false))] [0, 1, 5, 6, 30] [7] [.ptr false [I s.Band, slTemplate false s.Templates], slFeat false feats, .arr 7, I i, Bv false] [some (tAMatch ls)] [(0 : Int) ≤ i ∧ i < (s.Templates.length : Int), Con Tryz.prog 59 [slFeat false feats, slFeat false ((at_ s.Templates i.toNat).Feats), I s.Band] true (Bv false) ∧ True] ⟨⟨(by omega), (by omega)⟩, ⟨(con_bool h2 (l10In_ok feats ((at_ s.Templates i.toNat).Feats) s.Band (by omega) (by omega))), trivial⟩, trivial⟩ ?_
     refine xe_then ?_
     refine x_false rfl ?_
     refine x_skip ?_
     refine xe_block 1 ?_
     refine xe_then ?_
     refine x_r [] [0, 1, 5, 6] [7] [.ptr false [I s.Band, slTemplate false s.Templates], slFeat false feats, .arr 7, I (i + 1)] [some (tAMatch ls)] [inR .i64 (i + 1)] ⟨(inR_i64 (by omega) (by omega)), trivial⟩ ?_
     exact xe_again (ls, (i + 1)) rfl (show (0 ≤ (i + 1) ∧ (i + 1) ≤ (s.Templates.length : Int)) ∧ (ls = mtS s feats (i + 1).toNat) ∧ True from ⟨(by omega), (by (rw [hnx, hls, hms]; first | done | rfl | (rw [hel]; unfold mtM; rw [hix]))), trivial⟩) (by first | (show (((s.Templates.length : Int) - (i + 1)).toNat : Nat) < ((s.Templates.length : Int) - i).toNat; omega) | (dsimp only; omega))
    have hie : i.toNat = s.Templates.length := by omega
    refine x_r [(6, .dec false)] [0, 1, 5, 6, 14] [7] [.ptr false [I s.Band, slTemplate false s.Templates], slFeat false feats, .arr 7, I i, Bv false] [some (tAMatch ls)] [¬ (i < (s.Templates.length : Int))] ⟨h1, trivial⟩ ?_
    refine xe_then ?_
    refine x_false rfl ?_
    refine x_exit ?_
    refine xe_exit_then ?_
    refine xe_loop_exit ?_
    refine xe_exit_same ?_
    refine xe_then ?_
    refine xR [] [4] [7] [.arr 7] [some (tAMatch ls)] [] trivial ?_
    refine x_ret ?_
    refine xe_end ls (show (ls = mtS s feats s.Templates.length) ∧ (True) from ⟨(by (rw [hls, hie])), trivial⟩) (trivial) (.arr 7) (by kernel_rfl) (.inr ⟨(fun _ => rfl), rfl, rfl, fun i _ => .inl rfl⟩) (fun _ => rfl) (fun _ => (tagMatch true _))
  obtain ⟨v, ⟨hh0, _⟩, hc⟩ := hh
  exact ⟨v, hh0, hc⟩



-- spec.MatchesOf
theorem specMatchesOf_ok (s : Store) (feats : List Feat) (hst : okStore' s = true) (okf : okFeats feats 72 = true) (h18 : s.Templates.length ≤ 18) (oks_ : okStore s) : ∃ (v : List Match) (c : Int), (v = mtS s feats s.Templates.length) ∧ (c = 0) ∧ Con Tryz.prog 9 [agStore s, slFeat false feats] true (.tup [slMatch true v, I c]) := by
  have hh : ∃ r : (List Match) × Int, ((r.1 = mtS s feats s.Templates.length) ∧ (r.2 = 0) ∧ (True)) ∧ CallOK Tryz.prog 9 [agStore s, slFeat false feats] (lookO []) true (.tup [slMatch true r.1, I r.2]) (lookO []) := by
    refine fn_okX (Φ := fun r : (List Match) × Int => (r.1 = mtS s feats s.Templates.length) ∧ (r.2 = 0) ∧ (True)) [] (fun r => []) (fn := Tryz.f9) (nt := 15) Tryz.func9 rfl rfl (args := [agStore s, slFeat false feats]) rfl (allcons (.inl ⟨rfl, by simp [tagged, taggedL, tagTemplate]⟩) (allcons (.inl ⟨rfl, tagFeat false _⟩) allnil)) (res := fun r => .tup [slMatch true r.1, I r.2]) ?_
    refine xR [(0, .new 2)] [1, 2] [2] [slFeat false feats, .ref 2 0] [some (bxStore s)] [] trivial ?_
    refine x_seq ?_
    refine xR [(0, .call [(false, .ptr false [I s.Band, slTemplate false s.Templates])] true (Bv true)), (4, .call [(true, .any)] true (Bv true))] [1, 2, 12] [2] [slFeat false feats, .ref 2 0, Bv false] [some (bxStore s)] [Con Tryz.prog 26 [.ptr false [I s.Band, slTemplate false s.Templates]] true (Bv true) ∧ ((false = true → true = true) ∧ AV.idsL [I s.Band, slTemplate false s.Templates] = [] ∧ (valOf (I s.Band) = valOf (I s.Band)) ∧ ((false = true → false = true) ∧ 2 = 2 ∧ s.Templates.length = s.Templates.length ∧ ∀ i_, i_ < s.Templates.length → (fTemplate false s.Templates) i_ = (fTemplate false s.Templates) i_ ∨ (AV.idsL ((fTemplate false s.Templates) i_) = [] ∧ leL (fun _ => none) false ((fTemplate false s.Templates) i_) ((fTemplate false s.Templates) i_))) ∧ ([] : List AV) = []) ∧ True, Con Tryz.prog 27 [slFeat false feats] true (Bv true) ∧ True] ⟨⟨(con_bool hst (l11Ok_ok s oks_)), ⟨(fun h => by cases h), rfl, ⟨rfl, ⟨⟨(fun h => by cases h), rfl, rfl, fun i _ => .inl rfl⟩, rfl⟩⟩⟩, trivial⟩, ⟨(con_bool okf (l09Ok_ok feats)), trivial⟩, trivial⟩ ?_
    refine x_false rfl ?_
    refine x_skip ?_
    refine xe_then ?_
    refine x_seq ?_
    obtain ⟨v_1, hx1_0, hc1⟩ := l11Matches_ok s feats hst okf h18
    refine x_r [(1, .call [(false, .ptr false [I s.Band, slTemplate false s.Templates]), (true, .any)] true (slMatch true v_1))] [4, 5] [] [slMatch true v_1, I 0] [] [Con Tryz.prog 28 [.ptr false [I s.Band, slTemplate false s.Templates], slFeat false feats] true (slMatch true v_1) ∧ ((false = true → true = true) ∧ AV.idsL [I s.Band, slTemplate false s.Templates] = [] ∧ (valOf (I s.Band) = valOf (I s.Band)) ∧ ((false = true → false = true) ∧ 2 = 2 ∧ s.Templates.length = s.Templates.length ∧ ∀ i_, i_ < s.Templates.length → (fTemplate false s.Templates) i_ = (fTemplate false s.Templates) i_ ∨ (AV.idsL ((fTemplate false s.Templates) i_) = [] ∧ leL (fun _ => none) false ((fTemplate false s.Templates) i_) ((fTemplate false s.Templates) i_))) ∧ ([] : List AV) = []) ∧ True] ⟨⟨hc1, ⟨(fun h => by cases h), rfl, ⟨rfl, ⟨⟨(fun h => by cases h), rfl, rfl, fun i _ => .inl rfl⟩, rfl⟩⟩⟩, trivial⟩, trivial⟩ ?_
    refine xe_then ?_
    refine x_ret ?_
    refine xe_end (v_1, 0) (show (v_1 = mtS s feats s.Templates.length) ∧ (0 = 0) ∧ (True) from ⟨(by first | assumption | rfl), (by first | assumption | rfl), trivial⟩) (trivial) (.tup [slMatch true v_1, I 0]) (by kernel_rfl) (.inl rfl) (fun _ => rfl) (fun _ => (by simp [tagged, taggedL, tagMatch]))
  obtain ⟨⟨v, c⟩, ⟨hh0, hh1, _⟩, hc⟩ := hh
  exact ⟨v, c, hh0, hh1, hc⟩



theorem cmpH_neg {a b : Hyp} : cmpH a b < 0 ↔ a.Cost < b.Cost ∨ (a.Cost = b.Cost ∧ sless a.Label b.Label = true) := by
  rw [cmpH_eq]
  by_cases h : cmpI a.Cost b.Cost = 0
  · rw [if_pos h, cmpS_neg]; rw [cmpI_zero] at h
    exact ⟨fun q => .inr ⟨h, q⟩, fun q => q.elim (fun q => by omega) fun q => q.2⟩
  · rw [if_neg h, cmpI_neg]; rw [cmpI_zero] at h
    exact ⟨fun q => .inl q, fun q => q.elim id fun q => absurd q.1 h⟩
def okHyps (xs : List Hyp) : Prop := xs.length ≤ 8 ∧ (∀ i : Nat, i < xs.length → okLabel (at_ xs i).Label = true ∧ 0 ≤ (at_ xs i).Cost ∧ (at_ xs i).Cost ≤ 1000000) ∧ (xs.Pairwise fun x y => cmpH x y < 0) ∧ xs.Pairwise fun x y => x.Label ≠ y.Label


-- spec.l13Before
theorem l13Before_ok (a : Hyp) (b : Hyp) : Con Tryz.prog 62 [agHyp a, agHyp b] true (Bv (decide (cmpH a b < 0))) := by
  refine fn_ok (fn := Tryz.f62) (nt := 24) Tryz.func62 rfl rfl rfl rfl (by simp [taggedL, tagged]) fun B hB => ?_
  refine aR [(0, .new 2), (1, .new 3)] [2, 3] [2, 3] [.ref 2 0, .ref 3 0] [some (bxHyp a), some (bxHyp b)] [] hB trivial ?_
  refine aw_seq ?_
  by_cases h1 : a.Cost < b.Cost
  ·refine aw_r [(4, .dec true)] [4] [] [Bv true] [] [a.Cost < b.Cost] hB ⟨h1, trivial⟩ ?_
   refine ae_then ?_
   refine aw_ret ?_
   refine ae_ret hB (Bv true) (by kernel_rfl) (.inl (by refine congrArg Bv ?_; simp only [cmpH_neg]; first | rfl | (simp [*]; done) | (simp_all; done) | (simp [*]; omega) | (rw [Bool.eq_iff_iff]; simp only [decide_eq_true_eq]; constructor <;> intro q <;> first | omega | (simp_all; done) | (simp_all; omega)))) rfl (fun _ => trivial)
  by_cases h2 : a.Cost = b.Cost
  ·refine aw_r [(4, .dec false), (10, .dec true)] [4] [] [Bv (decide (sless a.Label b.Label = true))] [] [¬ (a.Cost < b.Cost), a.Cost = b.Cost] hB ⟨h1, h2, trivial⟩ ?_
   refine ae_then ?_
   refine aw_ret ?_
   refine ae_ret hB (Bv (decide (sless a.Label b.Label = true))) (by kernel_rfl) (.inl (by refine congrArg Bv ?_; simp only [cmpH_neg]; first | rfl | (simp [*]; done) | (simp_all; done) | (simp [*]; omega) | (rw [Bool.eq_iff_iff]; simp only [decide_eq_true_eq]; constructor <;> intro q <;> first | omega | (simp_all; done) | (simp_all; omega)))) rfl (fun _ => trivial)
  refine aw_r [(4, .dec false), (10, .dec false)] [4] [] [Bv false] [] [¬ (a.Cost < b.Cost), ¬ (a.Cost = b.Cost)] hB ⟨h1, h2, trivial⟩ ?_
  refine ae_then ?_
  refine aw_ret ?_
  refine ae_ret hB (Bv false) (by kernel_rfl) (.inl (by refine congrArg Bv ?_; simp only [cmpH_neg]; first | rfl | (simp [*]; done) | (simp_all; done) | (simp [*]; omega) | (rw [Bool.eq_iff_iff]; simp only [decide_eq_true_eq]; constructor <;> intro q <;> first | omega | (simp_all; done) | (simp_all; omega)))) rfl (fun _ => trivial)



-- spec.l13Ok
theorem l13Ok_ok (list : List Hyp) (ok : okHyps list) : Con Tryz.prog 29 [slHyp false list] true (Bv true) := by
  have hl8 := ok.1
  refine fn_ok (fn := Tryz.f29) (nt := 63) Tryz.func29 rfl rfl rfl rfl (by simp [taggedL, tagged, tagHyp]) fun B hB => ?_
  refine aw_lens (x := slHyp false list) 0 rfl (fun len_list => ?_)
  simp [LenOK, LenL, cHyp, fHyp, slHyp] at len_list
  refine aR [] [0] [] [slHyp false list] [] [] hB trivial ?_
  refine aw_seq ?_
  refine aR [] [0, 3] [] [slHyp false list, I 0] [] [] hB trivial ?_
  refine aw_block ?_
  refine aw_loop (fun gn gσ => ∃ (i : Int), gn = ((list.length : Int) - i).toNat ∧ (0 ≤ i ∧ i ≤ (list.length : Int)) ∧ gσ = mkS [(0, slHyp false list), (3, I i)] []) (((list.length : Int) - 0).toNat) ⟨0, rfl, (by omega), rfl⟩ (fun gn gσ hI => ?_)
  obtain ⟨i, rfl, hi0, rfl⟩ := hI
  refine aw_seq ?_
  refine aw_seq ?_
  by_cases h1 : i < (list.length : Int)
  ·have hi : i.toNat < list.length := by omega
   have hed := ok.2.1 _ hi
   refine aw_r [(3, .dec true)] [0, 3, 8] [] [slHyp false list, I i, Bv true] [] [i < (list.length : Int)] hB ⟨h1, trivial⟩ ?_
   refine ae_then ?_
   refine aw_true rfl ?_
   refine aw_skip ?_
   refine ae_then ?_
   refine aw_seq ?_
   refine aw_block ?_
   refine aw_seq ?_
   refine aw_seq ?_
   by_cases h2 : 0 < i
   ·have hpr := pw_get ok.2.2.1 (show (i - 1).toNat < i.toNat by omega) hi
    refine aw_r [(5, .call [(true, .any)] true (Bv true)), (13, .call [(true, .any), (true, .any), (true, .any)] true (Bv true)), (18, .dec true), (29, .call [(true, .any), (true, .any)] true (Bv true))] [0, 3, 43] [] [slHyp false list, I i, Bv false] [] [(0 : Int) ≤ i ∧ i < (list.length : Int), Con Tryz.prog 61 [Sv ((at_ list i.toNat).Label)] true (Bv true) ∧ True, (0 : Int) ≤ i ∧ i < (list.length : Int), Con Tryz.prog 24 [I ((at_ list i.toNat).Cost), I 0, I 1000000] true (Bv true) ∧ True, 0 < i, inR .i64 (i - 1), (0 : Int) ≤ (i - 1) ∧ (i - 1) < (list.length : Int), (0 : Int) ≤ i ∧ i < (list.length : Int), Con Tryz.prog 62 [agHyp (at_ list ((i - 1).toNat)), agHyp (at_ list i.toNat)] true (Bv true) ∧ True] hB ⟨⟨(by omega), (by omega)⟩, ⟨(con_bool hed.1 (specIsLabel_ok ((at_ list i.toNat).Label) (by rw [lab_size hed.1]; decide))), trivial⟩, ⟨(by omega), (by omega)⟩, ⟨(con_bool (inB_iff.2 hed.2) (l00In_ok ((at_ list i.toNat).Cost) 0 1000000)), trivial⟩, h2, (inR_i64 (by omega) (by omega)), ⟨(by omega), (by omega)⟩, ⟨(by omega), (by omega)⟩, ⟨(con_bool (decide_eq_true hpr) (l13Before_ok (at_ list ((i - 1).toNat)) (at_ list i.toNat))), trivial⟩, trivial⟩ ?_
    refine ae_then ?_
    refine aw_false rfl ?_
    refine aw_skip ?_
    refine ae_then ?_
    refine aR [] [0, 3, 4] [] [slHyp false list, I i, I 0] [] [] hB trivial ?_
    refine aw_block ?_
    refine aw_loop (fun gn gσ => ∃ (k : Int), gn = (i - k).toNat ∧ (0 ≤ k ∧ k ≤ i) ∧ gσ = mkS [(0, slHyp false list), (3, I i), (4, I k)] []) ((i - 0).toNat) ⟨0, rfl, (by omega), rfl⟩ (fun gn gσ hI => ?_)
    obtain ⟨k, rfl, hk0, rfl⟩ := hI
    refine aw_seq ?_
    refine aw_seq ?_
    by_cases h3 : k < i
    ·have hk : k.toNat < i.toNat := by omega
     have hpk := pw_get ok.2.2.2 hk hi
     refine aw_r [(2, .dec true)] [0, 3, 4, 46] [] [slHyp false list, I i, I k, Bv true] [] [k < i] hB ⟨h3, trivial⟩ ?_
     refine ae_then ?_
     refine aw_true rfl ?_
     refine aw_skip ?_
     refine ae_then ?_
     refine aw_seq ?_
     refine aw_block ?_
     refine aR [(10, .dec false)] [0, 3, 4, 59] [] [slHyp false list, I i, I k, Bv false] [] [(0 : Int) ≤ k ∧ k < (list.length : Int), (0 : Int) ≤ i ∧ i < (list.length : Int), ¬ (((at_ list k.toNat).Label) = ((at_ list i.toNat).Label))] hB ⟨⟨(by omega), (by omega)⟩, ⟨(by omega), (by omega)⟩, hpk, trivial⟩ ?_
     refine aw_false rfl ?_
     refine aw_skip ?_
     refine ae_block 3 ?_
     refine ae_then ?_
     refine aw_r [] [0, 3, 4] [] [slHyp false list, I i, I (k + 1)] [] [inR .i64 (k + 1)] hB ⟨(inR_i64 (by omega) (by omega)), trivial⟩ ?_
     exact ae_again _ (by omega) ⟨(k + 1), rfl, (by omega), rfl⟩
    refine aw_r [(2, .dec false)] [0, 3, 4, 46] [] [slHyp false list, I i, I k, Bv false] [] [¬ (k < i)] hB ⟨h3, trivial⟩ ?_
    refine ae_then ?_
    refine aw_false rfl ?_
    refine aw_exit ?_
    refine ae_exit_then ?_
    refine ae_exit_then ?_
    refine ae_exit_same ?_
    refine ae_block 1 ?_
    refine ae_then ?_
    refine aw_r [] [0, 3] [] [slHyp false list, I (i + 1)] [] [inR .i64 (i + 1)] hB ⟨(inR_i64 (by omega) (by omega)), trivial⟩ ?_
    exact ae_again _ (by omega) ⟨(i + 1), rfl, (by omega), rfl⟩
   refine aw_r [(5, .call [(true, .any)] true (Bv true)), (13, .call [(true, .any), (true, .any), (true, .any)] true (Bv true)), (18, .dec false)] [0, 3, 43] [] [slHyp false list, I i, Bv false] [] [(0 : Int) ≤ i ∧ i < (list.length : Int), Con Tryz.prog 61 [Sv ((at_ list i.toNat).Label)] true (Bv true) ∧ True, (0 : Int) ≤ i ∧ i < (list.length : Int), Con Tryz.prog 24 [I ((at_ list i.toNat).Cost), I 0, I 1000000] true (Bv true) ∧ True, ¬ (0 < i)] hB ⟨⟨(by omega), (by omega)⟩, ⟨(con_bool hed.1 (specIsLabel_ok ((at_ list i.toNat).Label) (by rw [lab_size hed.1]; decide))), trivial⟩, ⟨(by omega), (by omega)⟩, ⟨(con_bool (inB_iff.2 hed.2) (l00In_ok ((at_ list i.toNat).Cost) 0 1000000)), trivial⟩, h2, trivial⟩ ?_
   refine ae_then ?_
   refine aw_false rfl ?_
   refine aw_skip ?_
   refine ae_then ?_
   refine aR [] [0, 3, 4] [] [slHyp false list, I i, I 0] [] [] hB trivial ?_
   refine aw_block ?_
   refine aw_loop (fun gn gσ => ∃ (k : Int), gn = (i - k).toNat ∧ (0 ≤ k ∧ k ≤ i) ∧ gσ = mkS [(0, slHyp false list), (3, I i), (4, I k)] []) ((i - 0).toNat) ⟨0, rfl, (by omega), rfl⟩ (fun gn gσ hI => ?_)
   obtain ⟨k, rfl, hk0, rfl⟩ := hI
   refine aw_seq ?_
   refine aw_seq ?_
   by_cases h4 : k < i
   ·have hk : k.toNat < i.toNat := by omega
    have hpk := pw_get ok.2.2.2 hk hi
    refine aw_r [(2, .dec true)] [0, 3, 4, 46] [] [slHyp false list, I i, I k, Bv true] [] [k < i] hB ⟨h4, trivial⟩ ?_
    refine ae_then ?_
    refine aw_true rfl ?_
    refine aw_skip ?_
    refine ae_then ?_
    refine aw_seq ?_
    refine aw_block ?_
    refine aR [(10, .dec false)] [0, 3, 4, 59] [] [slHyp false list, I i, I k, Bv false] [] [(0 : Int) ≤ k ∧ k < (list.length : Int), (0 : Int) ≤ i ∧ i < (list.length : Int), ¬ (((at_ list k.toNat).Label) = ((at_ list i.toNat).Label))] hB ⟨⟨(by omega), (by omega)⟩, ⟨(by omega), (by omega)⟩, hpk, trivial⟩ ?_
    refine aw_false rfl ?_
    refine aw_skip ?_
    refine ae_block 3 ?_
    refine ae_then ?_
    refine aw_r [] [0, 3, 4] [] [slHyp false list, I i, I (k + 1)] [] [inR .i64 (k + 1)] hB ⟨(inR_i64 (by omega) (by omega)), trivial⟩ ?_
    exact ae_again _ (by omega) ⟨(k + 1), rfl, (by omega), rfl⟩
   refine aw_r [(2, .dec false)] [0, 3, 4, 46] [] [slHyp false list, I i, I k, Bv false] [] [¬ (k < i)] hB ⟨h4, trivial⟩ ?_
   refine ae_then ?_
   refine aw_false rfl ?_
   refine aw_exit ?_
   refine ae_exit_then ?_
   refine ae_exit_then ?_
   refine ae_exit_same ?_
   refine ae_block 1 ?_
   refine ae_then ?_
   refine aw_r [] [0, 3] [] [slHyp false list, I (i + 1)] [] [inR .i64 (i + 1)] hB ⟨(inR_i64 (by omega) (by omega)), trivial⟩ ?_
   exact ae_again _ (by omega) ⟨(i + 1), rfl, (by omega), rfl⟩
  refine aw_r [(3, .dec false)] [0, 3, 8] [] [slHyp false list, I i, Bv false] [] [¬ (i < (list.length : Int))] hB ⟨h1, trivial⟩ ?_
  refine ae_then ?_
  refine aw_false rfl ?_
  refine aw_exit ?_
  refine ae_exit_then ?_
  refine ae_exit_then ?_
  refine ae_exit_same ?_
  refine ae_then ?_
  refine aR [(2, .dec true)] [2] [] [Bv true] [] [(list.length : Int) ≤ 8] hB ⟨(by have := ok.1; omega), trivial⟩ ?_
  refine aw_ret ?_
  refine ae_ret hB (Bv true) (by kernel_rfl) (.inl rfl) rfl (fun _ => trivial)



-- spec.ValidHyps
theorem specValidHyps_ok (list : List Hyp) (ok : okHyps list) : Con Tryz.prog 10 [slHyp false list] true (Bv true) := by
  refine fn_ok (fn := Tryz.f10) (nt := 5) Tryz.func10 rfl rfl rfl rfl (by simp [taggedL, tagged, tagHyp]) fun B hB => ?_
  refine aw_lens (x := slHyp false list) 0 rfl (fun len_list => ?_)
  simp [LenOK, LenL, cHyp, fHyp, slHyp] at len_list
  refine aR [] [0] [] [slHyp false list] [] [] hB trivial ?_
  refine aR [(1, .call [(true, .any)] true (Bv true))] [2] [] [Bv true] [] [Con Tryz.prog 29 [slHyp false list] true (Bv true) ∧ True] hB ⟨⟨(l13Ok_ok list ok), trivial⟩, trivial⟩ ?_
  refine aw_ret ?_
  refine ae_ret hB (Bv true) (by kernel_rfl) (.inl rfl) rfl (fun _ => trivial)





def strB (xs : List Int) : ByteArray := ⟨(xs.map fun n => UInt8.ofNat n.toNat).toArray⟩
def bytesL (s : ByteArray) : List Int := s.data.toList.map fun b => (b.toNat : Int)

def decB (n : Int) : ByteArray := ⟨(Lib.itoa n).toArray⟩
def digs (u : Nat) : List Int := if h : u = 0 then [] else digs (u / 10) ++ [48 + ((u % 10 : Nat) : Int)]
termination_by u
decreasing_by omega

def jrest (sep : ByteArray) : List ByteArray → ByteArray
  | [] => ⟨#[]⟩
  | y :: l => (sep ++ y) ++ jrest sep l
def jnB (sep : ByteArray) : List ByteArray → ByteArray
  | [] => ⟨#[]⟩
  | x :: l => x ++ jrest sep l
def jnZ (xs : List ByteArray) : Nat → Nat
  | 0 => 0
  | k + 1 => jnZ xs k + (at_ xs k).size
def noB (c : UInt8) (s : ByteArray) : Prop := c ∉ s.data.toList
def splC (c : UInt8) (s : ByteArray) : List ByteArray := Lib.splitB ⟨#[c]⟩ 0 (Lib.countB s ⟨#[c]⟩) s



def splB (sep s : ByteArray) : List ByteArray := Lib.splitB sep 0 (Lib.countB s sep) s
def sufB (s p : ByteArray) : Bool := Lib.hasSuffix s.data.toList p.data.toList
def trsB (s p : ByteArray) : ByteArray := ⟨(Lib.trimSuffix s.data.toList p.data.toList).toArray⟩
def trpB (s p : ByteArray) : ByteArray := ⟨(Lib.trimPrefix s.data.toList p.data.toList).toArray⟩

def jok (sep : ByteArray) (xs : List ByteArray) : Prop := sep.size ≤ 8 ∧ xs.length ≤ 100000 ∧ (xs ≠ [] → jnZ xs xs.length + sep.size * (xs.length - 1) ≤ 1000000000)

def isDec (s : ByteArray) : Prop := ∃ n : Int, (-1000000000000000000 < n ∧ n < 1000000000000000000) ∧ s = decB n
def dcV (s : ByteArray) : Int := match Lib.parseIntB 64 s.data.toList with | .ok v => v | _ => 0

def comB (xs : List Int) : ByteArray := jnB ⟨#[44]⟩ (xs.map decB)
def bndI (xs : List Int) : Prop := xs.length ≤ 1000 ∧ ∀ x ∈ xs, -1000000000000000000 < x ∧ x < 1000000000000000000
def dcs (s : ByteArray) : List Int := (splB ⟨#[44]⟩ s).map dcV
def linB (s : ByteArray) : List ByteArray := if s = ⟨#[]⟩ then [] else splB ⟨#[10]⟩ (trsB s ⟨#[10]⟩)
def linesX : List ByteArray → Nat → ByteArray
  | _, 0 => ⟨#[]⟩
  | ls, k + 1 => linesX ls k ++ (at_ ls k ++ ⟨#[10]⟩)
def linOk (s : ByteArray) : Prop := s.size ≤ 10000000 ∧ (s = ⟨#[]⟩ ∨ sufB s ⟨#[10]⟩ = true)

def ptTx (p : Point) : ByteArray := comB [p.X, p.Y, p.T]
def skLn (s : Stroke) : ByteArray := jnB ⟨#[32]⟩ (s.Points.map ptTx)
def inkTx (x : Ink) : ByteArray := if okInk' x = true then linesX (x.Strokes.map skLn) x.Strokes.length else ⟨#[]⟩
theorem mem_atT {α : Type} [Inhabited α] {xs : List α} {x : α} (h : x ∈ xs) : ∃ i, i < xs.length ∧ at_ xs i = x := by
  obtain ⟨i, hi, e⟩ := List.getElem_of_mem h
  exact ⟨i, hi, by rw [at_eq hi]; exact e⟩

theorem hyp_ext {a b : Hyp} (h1 : a.Label = b.Label) (h2 : a.Cost = b.Cost) : a = b := by cases a; cases b; simp_all
theorem okSt_size {s : Store} (h : okStore' s = true) : okStore s := fun t ht => by
  obtain ⟨i, hi, rfl⟩ := mem_atT ht
  have q := (okStore_iff.1 h).2.2 i hi
  simp only [okTm, okLabel, Bool.and_eq_true, decide_eq_true_eq] at q
  unfold okTemplate; omega
theorem hasHL_iff {xs : List Hyp} {l : ByteArray} : hasHL xs l = true ↔ ∃ h ∈ xs, h.Label = l := by
  unfold hasHL
  rw [anyN_iff]
  constructor
  · rintro ⟨j, hj, h⟩; exact ⟨_, at_mem hj, of_decide_eq_true h⟩
  · rintro ⟨h, hm, e⟩
    obtain ⟨j, hj, q⟩ := List.getElem_of_mem hm
    exact ⟨j, hj, decide_eq_true (by rw [at_eq hj, q]; exact e)⟩
theorem pick_or (most : Int) (xs : List Hyp) (k : Nat) : (pickH most xs (k + 1) = pickH most xs k ++ [at_ xs k] ∧ ((pickH most xs k).length : Int) < most ∧ hasHL (pickH most xs k) (at_ xs k).Label = false) ∨ (pickH most xs (k + 1) = pickH most xs k ∧ ¬ (((pickH most xs k).length : Int) < most ∧ hasHL (pickH most xs k) (at_ xs k).Label = false)) := by
  by_cases h : ((pickH most xs k).length : Int) < most ∧ hasHL (pickH most xs k) (at_ xs k).Label = false
  · exact .inl ⟨if_pos h, h⟩
  · exact .inr ⟨if_neg h, h⟩
theorem pick_sub (most : Int) (xs : List Hyp) : ∀ k, k ≤ xs.length → List.Sublist (pickH most xs k) (xs.take k)
  | 0, _ => by simp [pickH]
  | k + 1, h => by
    have ih := pick_sub most xs k (by omega)
    rw [List.take_succ_eq_append_getElem (by omega), ← at_eq (by omega)]
    rcases pick_or most xs k with q | q
    · rw [q.1]; exact ih.append (List.Sublist.refl _)
    · rw [q.1]; exact ih.trans (List.sublist_append_left _ _)
theorem pick_le (most : Int) (xs : List Hyp) (hm : 0 ≤ most) : ∀ k, ((pickH most xs k).length : Int) ≤ most
  | 0 => by simpa [pickH] using hm
  | k + 1 => by
    have ih := pick_le most xs hm k
    rcases pick_or most xs k with q | q
    · rw [q.1, List.length_append]; simp; omega
    · rw [q.1]; exact ih
theorem pick_lab (most : Int) (xs : List Hyp) : ∀ k, (pickH most xs k).Pairwise fun x y => x.Label ≠ y.Label
  | 0 => by simp [pickH]
  | k + 1 => by
    have ih := pick_lab most xs k
    rcases pick_or most xs k with q | q
    · rw [q.1, List.pairwise_append]
      refine ⟨ih, by simp, fun a ha b hb => ?_⟩
      rw [List.mem_singleton] at hb
      subst hb
      intro e
      have := hasHL_iff.2 ⟨a, ha, e⟩
      rw [q.2.2] at this; cases this
    · rw [q.1]; exact ih
theorem pick_grow (most : Int) (xs : List Hyp) (k : Nat) : (∀ h ∈ pickH most xs k, h ∈ pickH most xs (k + 1)) ∧ (pickH most xs k).length ≤ (pickH most xs (k + 1)).length := by
  rcases pick_or most xs k with q | q
  · rw [q.1]; exact ⟨fun h hh => List.mem_append_left _ hh, by simp⟩
  · rw [q.1]; exact ⟨fun h hh => hh, Nat.le_refl _⟩
theorem pick_has (most : Int) (xs : List Hyp) : ∀ k j, j < k → ((pickH most xs k).length : Int) < most → hasHL (pickH most xs k) (at_ xs j).Label = true
  | 0, j, h, _ => absurd h (Nat.not_lt_zero _)
  | k + 1, j, h, hl => by
    have g := pick_grow most xs k
    by_cases e : j = k
    · subst e
      rcases pick_or most xs j with q | q
      · exact hasHL_iff.2 ⟨at_ xs j, by rw [q.1]; simp, rfl⟩
      · rw [q.1] at hl ⊢
        cases hq : hasHL (pickH most xs j) (at_ xs j).Label with
        | true => rfl
        | false => exact absurd ⟨hl, hq⟩ q.2
    · obtain ⟨h1, hh, he⟩ := hasHL_iff.1 (pick_has most xs k j (by omega) (by omega))
      exact hasHL_iff.2 ⟨h1, g.1 _ hh, he⟩
theorem pick_min (most : Int) {xs : List Hyp} (hs : xs.Pairwise fun x y => x.Cost ≤ y.Cost) : ∀ k, k ≤ xs.length → ∀ h ∈ pickH most xs k, ∀ j, j < xs.length → (at_ xs j).Label = h.Label → h.Cost ≤ (at_ xs j).Cost
  | 0, _, h, hh, _, _, _ => by simp [pickH] at hh
  | k + 1, hk, h, hh, j, hj, e => by
    have ih := pick_min most hs k (by omega)
    rcases pick_or most xs k with q | q
    · rw [q.1, List.mem_append, List.mem_singleton] at hh
      rcases hh with hh | hh
      · exact ih h hh j hj e
      · subst hh
        by_cases h1 : j < k
        · have := pick_has most xs k j h1 q.2.1
          rw [e, q.2.2] at this; cases this
        · by_cases h2 : j = k
          · subst h2; exact Int.le_refl _
          · exact pw_get hs (show k < j by omega) hj
    · rw [q.1] at hh; exact ih h hh j hj e
theorem hypL_facts {most : Int} {xs : List Hyp} (hm : 0 ≤ most) : (∀ h ∈ hypL most xs, h ∈ xs) ∧ ((hypL most xs).length : Int) ≤ most ∧ ((hypL most xs).Pairwise fun x y => x.Label ≠ y.Label) ∧ ((hypL most xs).Pairwise fun x y => cmpH x y < 0) ∧ (∀ h ∈ hypL most xs, ∀ x ∈ xs, x.Label = h.Label → h.Cost ≤ x.Cost) ∧ (1 ≤ most → 0 < xs.length → 0 < (hypL most xs).length) := by
  have hl := isoL_len cmpH xs xs.length
  have hsub := pick_sub most (isoL cmpH xs xs.length) xs.length (by omega)
  rw [List.take_of_length_le (by omega)] at hsub
  have hmem : ∀ h ∈ hypL most xs, h ∈ isoL cmpH xs xs.length := fun h hh => hsub.subset hh
  have hord := isoL_ord (c := cmpH) cmpH_w (B := fun _ _ => True) (xs := xs) (List.pairwise_of_forall fun _ _ => trivial) xs.length (Nat.le_refl _)
  have hco : (isoL cmpH xs xs.length).Pairwise fun x y => x.Cost ≤ y.Cost := hord.imp fun {x y} h => by
    rcases h with h | h
    · rcases cmpH_neg.1 h with q | q <;> omega
    · have q := h.1
      rw [cmpH_eq] at q
      by_cases e : cmpI x.Cost y.Cost = 0
      · rw [cmpI_zero] at e; omega
      · rw [if_neg e] at q; exact absurd q e
  refine ⟨fun h hh => isoL_mem.1 (hmem h hh), pick_le most _ hm _, pick_lab most _ _, ?_, ?_, ?_⟩
  · have h1 : (hypL most xs).Pairwise (ordR cmpH fun _ _ => True) := hord.sublist hsub
    have h2 := pick_lab most (isoL cmpH xs xs.length) xs.length
    exact (h1.and h2).imp fun {x y} h => by
      rcases h.1 with q | q
      · exact q
      · have q1 := q.1
        rw [cmpH_eq] at q1
        by_cases e : cmpI x.Cost y.Cost = 0
        · rw [if_pos e, cmpS_zero] at q1; exact absurd q1 h.2
        · rw [if_neg e] at q1; exact absurd q1 e
  · intro h hh x hx e
    obtain ⟨j, hj, q⟩ := List.getElem_of_mem (isoL_mem.2 hx)
    have := pick_min most hco xs.length (by omega) h hh j hj (by rw [at_eq hj, q]; exact e)
    rw [at_eq hj, q] at this
    exact this
  · intro h1 h2
    rcases Nat.eq_zero_or_pos (hypL most xs).length with e | e
    · have := pick_has most (isoL cmpH xs xs.length) xs.length 0 h2 (by unfold hypL at e; omega)
      obtain ⟨h, hh, _⟩ := hasHL_iff.1 this
      have : 0 < (hypL most xs).length := List.length_pos_of_mem hh
      omega
    · exact e
theorem rec_facts {s : Store} {ik : Ink} {t : Setting} (hst : okStore' s = true) (okf : okFeats (feR ik t.Points).1 72 = true) (hset : okSet t = true) (hsk : 1 ≤ ik.Strokes.length ∧ ik.Strokes.length ≤ 16) : okHyps (recR s ik t) ∧ ((recR s ik t).length : Int) ≤ t.Most ∧
    (∀ h ∈ recR s ik t, ∃ m ∈ mtS s (feR ik t.Points).1 s.Templates.length, hypO s (penI ik t) m = h) ∧
    (∀ h ∈ recR s ik t, ∀ m ∈ mtS s (feR ik t.Points).1 s.Templates.length, (hypO s (penI ik t) m).Label = h.Label → h.Cost ≤ (hypO s (penI ik t) m).Cost) ∧
    (0 < (mtS s (feR ik t.Points).1 s.Templates.length).length → 0 < (recR s ik t).length) := by
  have hse := okSet_iff.1 hset
  have f := hypL_facts (most := t.Most) (xs := recL s ik t) (by omega)
  have hb : 0 ≤ penI ik t ∧ penI ik t ≤ 15000 := penI_bd hse.2.2 hsk
  have hx : ∀ h ∈ recR s ik t, ∃ m ∈ mtS s (feR ik t.Points).1 s.Templates.length, hypO s (penI ik t) m = h := fun h hh => by
    obtain ⟨m, hm, e⟩ := List.mem_map.1 (f.1 h hh)
    exact ⟨m, hm, e⟩
  refine ⟨⟨by have := f.2.1; show (hypL t.Most (recL s ik t)).length ≤ 8; omega, fun i hi => ?_, f.2.2.2.1, f.2.2.1⟩, f.2.1, hx, fun h hh m hm e => f.2.2.2.2.1 h hh _ (List.mem_map_of_mem hm) e, fun h0 => f.2.2.2.2.2 (by omega) (by unfold recL; rwa [List.length_map])⟩
  obtain ⟨m, hm, e⟩ := hx _ (at_mem hi)
  obtain ⟨j, hj, h2, h3⟩ := mtS_mem hm
  have ht := (okStore_iff.1 hst).2.2 j hj
  have hc := mt_cv okf ht h2
  rw [← e]
  subst h3
  simp only [okTm, Bool.and_eq_true] at ht
  refine ⟨?_, ?_⟩
  · show okLabel (at_ s.Templates ((j : Nat) : Int).toNat).Label = true
    rw [Int.toNat_natCast]; exact ht.1
  · have h4 : (hypO s (penI ik t) (mtM s (feR ik t.Points).1 j)).Cost = (mtM s (feR ik t.Points).1 j).Cost + penI ik t := rfl
    rw [h4]; omega


-- laws.FnGuesses
theorem fnGuesses_con (code : List Int) (ok_code : ∀ y ∈ code, inR .u8 y) : Con Tryz.prog 3 [slU8 false code] true (Bv true) := by
  refine fn_ok (fn := Tryz.f3) (nt := 142) Tryz.func3 rfl rfl rfl rfl (by simp [taggedL, tagged, tagU8]) fun B hB => ?_
  refine aw_lens (x := slU8 false code) 0 rfl (fun len_code => ?_)
  simp [LenOK, LenL, cU8, fU8, slU8] at len_code
  refine aR [] [0] [] [slU8 false code] [] [] hB trivial ?_
  refine aw_seq ?_
  refine aw_seq ?_
  rcases Bool.eq_false_or_eq_true (decide (3000 < (code.length : Int) ∨ 3000 < (([] : List Int).length : Int))) with h1 | h1
  ·refine aw_r [(1, .call [(true, .any), (false, slU8 false ([] : List Int))] true (Bv true))] [0, 17] [] [slU8 false code, Bv true] [] [Con Tryz.prog 5 [slU8 false code, slU8 false ([] : List Int)] true (Bv true) ∧ ((([] : List Int).length) = 0 ∧ valOf nilA = Value.slice none 0 0) ∧ True] hB ⟨⟨(con_bool h1 (a2Long_ok code ([] : List Int))), ⟨rfl, rfl⟩, trivial⟩, trivial⟩ ?_
   refine ae_then ?_
   refine aw_true rfl ?_
   refine aR [] [2] [] [Bv true] [] [] hB trivial ?_
   refine aw_ret ?_
   refine ae_ret_then ?_
   refine ae_ret hB (Bv true) (by kernel_rfl) (.inl rfl) rfl (fun _ => trivial)
  have hc : (∀ j, j < code.length → 0 ≤ at_ code j ∧ at_ code j ≤ 255) ∧ code.length ≤ 4611686018427387904 := ⟨fun j hj => ok_code _ (at_mem hj), by first | omega | (simp at h1; omega)⟩
  refine aw_r [(1, .call [(true, .any), (false, slU8 false ([] : List Int))] true (Bv false))] [0, 17] [] [slU8 false code, Bv false] [] [Con Tryz.prog 5 [slU8 false code, slU8 false ([] : List Int)] true (Bv false) ∧ ((([] : List Int).length) = 0 ∧ valOf nilA = Value.slice none 0 0) ∧ True] hB ⟨⟨(con_bool h1 (a2Long_ok code ([] : List Int))), ⟨rfl, rfl⟩, trivial⟩, trivial⟩ ?_
  refine ae_then ?_
  refine aw_false rfl ?_
  refine aw_skip ?_
  refine ae_then ?_
  refine aw_seq ?_
  obtain ⟨v_1, ik_1, t_1, hx1_0, hx1_1, hx1_2, hx1_3, hx1_4, hx1_5, hc1⟩ := A2Known_ok code (by assumption)
  have hst : okStore' v_1 = true := okStore_iff.2 ⟨by omega, by omega, fun j hj => hx1_2 _ (at_mem hj)⟩
  have h5 := hx1_1
  have hok := hx1_3
  have h3 := hx1_4
  have hsetb := hx1_5
  have hset : okSet t_1 = true := okSet_iff.2 (by omega)
  have h72_ : 1 ≤ ik_1.Strokes.length → (ik_1.Strokes.length : Int) * t_1.Points ≤ 72 := fun _ => by have q : (ik_1.Strokes.length : Int) * t_1.Points ≤ 3 * t_1.Points := Int.mul_le_mul_of_nonneg_right (by omega) (by omega); omega
  have hoks := okSt_size hst
  refine aw_r [(1, .call [(true, .any)] true (.tup [agStoreT v_1, .agg [slStroke true ik_1.Strokes], agSetting t_1])), (6, .new 3), (7, .new 4), (8, .new 5)] [3, 4, 5] [3, 4, 5] [.ref 3 0, .ref 4 0, .ref 5 0] [some (bxStoreT v_1), some (.box [slStroke true ik_1.Strokes]), some (bxSetting t_1)] [Con Tryz.prog 6 [slU8 false code] true (.tup [agStoreT v_1, .agg [slStroke true ik_1.Strokes], agSetting t_1]) ∧ True] hB ⟨⟨hc1, trivial⟩, trivial⟩ ?_
  refine ae_then ?_
  refine aw_seq ?_
  obtain ⟨v_2, c_2, hx2_0, hx2_1, hc2⟩ := HypsOf_ok v_1 ik_1 t_1 hst hok hset (by omega) h72_ hoks
  refine aw_r [(3, .call [(false, agStore v_1), (false, .agg [slStroke false ik_1.Strokes]), (true, .any)] true (.tup [slHyp true v_2, I c_2]))] [3, 4, 5, 6, 7] [3, 4, 5] [.ref 3 0, .ref 4 0, .ref 5 0, slHyp true v_2, I c_2] [some (bxStoreT v_1), some (.box [slStroke true ik_1.Strokes]), some (bxSetting t_1)] [Con Tryz.prog 7 [agStore v_1, .agg [slStroke false ik_1.Strokes], agSetting t_1] true (.tup [slHyp true v_2, I c_2]) ∧ ((valOf (I v_1.Band) = valOf (I v_1.Band)) ∧ ((false = true → true = true) ∧ 2 = 2 ∧ v_1.Templates.length = v_1.Templates.length ∧ ∀ i_, i_ < v_1.Templates.length → (fTemplate true v_1.Templates) i_ = (fTemplate false v_1.Templates) i_ ∨ (AV.idsL ((fTemplate false v_1.Templates) i_) = [] ∧ leL (fun _ => none) false ((fTemplate true v_1.Templates) i_) ((fTemplate false v_1.Templates) i_))) ∧ ([] : List AV) = []) ∧ (((false = true → true = true) ∧ 1 = 1 ∧ ik_1.Strokes.length = ik_1.Strokes.length ∧ ∀ i_, i_ < ik_1.Strokes.length → (fStroke true ik_1.Strokes) i_ = (fStroke false ik_1.Strokes) i_ ∨ (AV.idsL ((fStroke false ik_1.Strokes) i_) = [] ∧ leL (fun _ => none) false ((fStroke true ik_1.Strokes) i_) ((fStroke false ik_1.Strokes) i_))) ∧ ([] : List AV) = []) ∧ True] hB ⟨⟨hc2, ⟨rfl, ⟨⟨(fun h => by cases h), rfl, rfl, fun i _ => .inr ⟨idsTemplate _ _, leTemplate _ _ _⟩⟩, rfl⟩⟩, ⟨⟨(fun h => by cases h), rfl, rfl, fun i _ => .inr ⟨idsStroke _ _, leStroke _ _ _⟩⟩, rfl⟩, trivial⟩, trivial⟩ ?_
  refine ae_then ?_
  refine aw_seq ?_
  refine aw_seq ?_
  by_cases h2 : (ik_1.Strokes.length : Int) = 0
  ·have hc6 : c_2 = 6 := by rw [hx2_1]; exact congrArg Prod.snd (if_pos h2 : hkR v_1 ik_1 t_1 = ([], 6))
   refine aw_r [(3, .dec true)] [3, 4, 5, 6, 7, 34] [3, 4, 5] [.ref 3 0, .ref 4 0, .ref 5 0, slHyp true v_2, I c_2, Bv true] [some (bxStoreT v_1), some (.box [slStroke true ik_1.Strokes]), some (bxSetting t_1)] [(ik_1.Strokes.length : Int) = 0] hB ⟨h2, trivial⟩ ?_
   refine ae_then ?_
   refine aw_true rfl ?_
   refine aR [(1, .dec true)] [2] [] [Bv true] [] [c_2 = 6] hB ⟨hc6, trivial⟩ ?_
   refine aw_ret ?_
   refine ae_ret_then ?_
   refine ae_ret hB (Bv true) (by kernel_rfl) (.inl rfl) rfl (fun _ => trivial)
  have hsk : 1 ≤ ik_1.Strokes.length := by omega
  have h72 := h72_ hsk
  have hst2 : hkR v_1 ik_1 t_1 = (recR v_1 ik_1 t_1, 0) := if_neg h2
  have hc0 : c_2 = 0 := by rw [hx2_1, hst2]
  have hlr : v_2 = recR v_1 ik_1 t_1 := by rw [hx2_0, hst2]
  have hfe := fe_72 hok (by omega) hsk h72
  have okf := hfe.2
  have hrf := rec_facts hst okf hset (by omega)
  rw [← hlr] at hrf
  have hpb := penI_bd (ik := ik_1) (t := t_1) (by omega) (by omega)
  refine aw_r [(3, .dec false)] [3, 4, 5, 6, 7, 34] [3, 4, 5] [.ref 3 0, .ref 4 0, .ref 5 0, slHyp true v_2, I c_2, Bv false] [some (bxStoreT v_1), some (.box [slStroke true ik_1.Strokes]), some (bxSetting t_1)] [¬ ((ik_1.Strokes.length : Int) = 0)] hB ⟨h2, trivial⟩ ?_
  refine ae_then ?_
  refine aw_false rfl ?_
  refine aw_skip ?_
  refine ae_then ?_
  refine aw_seq ?_
  refine aR [(1, .dec false)] [3, 4, 5, 6, 7, 38] [3, 4, 5] [.ref 3 0, .ref 4 0, .ref 5 0, slHyp true v_2, I c_2, Bv false] [some (bxStoreT v_1), some (.box [slStroke true ik_1.Strokes]), some (bxSetting t_1)] [¬ (c_2 ≠ 0)] hB ⟨(fun hq => hq hc0), trivial⟩ ?_
  refine aw_false rfl ?_
  refine aw_skip ?_
  refine ae_then ?_
  refine aR [(3, .call [(false, .agg [slStroke false ik_1.Strokes]), (true, .any)] true (.tup [slFeat true ((feR ik_1 t_1.Points).1), I ((feR ik_1 t_1.Points).2)]))] [3, 4, 5, 6, 8] [3, 4, 5] [.ref 3 0, .ref 4 0, .ref 5 0, slHyp true v_2, slFeat true ((feR ik_1 t_1.Points).1)] [some (bxStoreT v_1), some (.box [slStroke true ik_1.Strokes]), some (bxSetting t_1)] [Con Tryz.prog 8 [.agg [slStroke false ik_1.Strokes], I t_1.Points] true (.tup [slFeat true ((feR ik_1 t_1.Points).1), I ((feR ik_1 t_1.Points).2)]) ∧ (((false = true → true = true) ∧ 1 = 1 ∧ ik_1.Strokes.length = ik_1.Strokes.length ∧ ∀ i_, i_ < ik_1.Strokes.length → (fStroke true ik_1.Strokes) i_ = (fStroke false ik_1.Strokes) i_ ∨ (AV.idsL ((fStroke false ik_1.Strokes) i_) = [] ∧ leL (fun _ => none) false ((fStroke true ik_1.Strokes) i_) ((fStroke false ik_1.Strokes) i_))) ∧ ([] : List AV) = []) ∧ True] hB ⟨⟨(specFeatsOf_ok ik_1 t_1.Points), ⟨⟨(fun h => by cases h), rfl, rfl, fun i _ => .inr ⟨idsStroke _ _, leStroke _ _ _⟩⟩, rfl⟩, trivial⟩, trivial⟩ ?_
  refine aw_seq ?_
  obtain ⟨v_3, c_3, hx3_0, hx3_1, hc3⟩ := specMatchesOf_ok v_1 ((feR ik_1 t_1.Points).1) hst okf (by omega) hoks
  have hall := hx3_0
  rw [← hall] at hrf
  have hal : v_3.length ≤ 5 := by rw [hall]; exact Nat.le_trans (mtS_len _ _ _) h5
  refine aw_r [(2, .call [(false, agStore v_1), (false, slFeat false ((feR ik_1 t_1.Points).1))] true (.tup [slMatch true v_3, I c_3]))] [3, 4, 5, 6, 10, 11] [3, 4, 5] [.ref 3 0, .ref 4 0, .ref 5 0, slHyp true v_2, slMatch true v_3, I c_3] [some (bxStoreT v_1), some (.box [slStroke true ik_1.Strokes]), some (bxSetting t_1)] [Con Tryz.prog 9 [agStore v_1, slFeat false ((feR ik_1 t_1.Points).1)] true (.tup [slMatch true v_3, I c_3]) ∧ ((valOf (I v_1.Band) = valOf (I v_1.Band)) ∧ ((false = true → true = true) ∧ 2 = 2 ∧ v_1.Templates.length = v_1.Templates.length ∧ ∀ i_, i_ < v_1.Templates.length → (fTemplate true v_1.Templates) i_ = (fTemplate false v_1.Templates) i_ ∨ (AV.idsL ((fTemplate false v_1.Templates) i_) = [] ∧ leL (fun _ => none) false ((fTemplate true v_1.Templates) i_) ((fTemplate false v_1.Templates) i_))) ∧ ([] : List AV) = []) ∧ ((false = true → true = true) ∧ 3 = 3 ∧ (((feR ik_1 t_1.Points).1).length) = (((feR ik_1 t_1.Points).1).length) ∧ ∀ i_, i_ < (((feR ik_1 t_1.Points).1).length) → (fFeat ((feR ik_1 t_1.Points).1)) i_ = (fFeat ((feR ik_1 t_1.Points).1)) i_ ∨ (AV.idsL ((fFeat ((feR ik_1 t_1.Points).1)) i_) = [] ∧ leL (fun _ => none) false ((fFeat ((feR ik_1 t_1.Points).1)) i_) ((fFeat ((feR ik_1 t_1.Points).1)) i_))) ∧ True] hB ⟨⟨hc3, ⟨rfl, ⟨⟨(fun h => by cases h), rfl, rfl, fun i _ => .inr ⟨idsTemplate _ _, leTemplate _ _ _⟩⟩, rfl⟩⟩, ⟨(fun h => by cases h), rfl, rfl, fun i _ => .inl rfl⟩, trivial⟩, trivial⟩ ?_
  refine ae_then ?_
  refine aw_seq ?_
  refine aR [(1, .dec false), (4, .call [(false, slHyp false v_2)] true (Bv true)), (12, .dec false)] [3, 4, 5, 6, 10, 67] [3, 4, 5] [.ref 3 0, .ref 4 0, .ref 5 0, slHyp true v_2, slMatch true v_3, Bv false] [some (bxStoreT v_1), some (.box [slStroke true ik_1.Strokes]), some (bxSetting t_1)] [¬ (c_3 ≠ 0), Con Tryz.prog 10 [slHyp false v_2] true (Bv true) ∧ ((false = true → true = true) ∧ 2 = 2 ∧ v_2.length = v_2.length ∧ ∀ i_, i_ < v_2.length → (fHyp v_2) i_ = (fHyp v_2) i_ ∨ (AV.idsL ((fHyp v_2) i_) = [] ∧ leL (fun _ => none) false ((fHyp v_2) i_) ((fHyp v_2) i_))) ∧ True, ¬ (t_1.Most < (v_2.length : Int))] hB ⟨(fun hq => hq hx3_1), ⟨(specValidHyps_ok v_2 hrf.1), ⟨(fun h => by cases h), rfl, rfl, fun i _ => .inl rfl⟩, trivial⟩, (by have := hrf.2.1; omega), trivial⟩ ?_
  refine aw_false rfl ?_
  refine aw_skip ?_
  refine ae_then ?_
  refine aR [] [3, 6, 10, 12] [3] [.ref 3 0, slHyp true v_2, slMatch true v_3, I (t_1.Pen * ((ik_1.Strokes.length : Int) - 1))] [some (bxStoreT v_1)] [inR .i64 ((ik_1.Strokes.length : Int) - 1), inR .i64 (t_1.Pen * ((ik_1.Strokes.length : Int) - 1))] hB ⟨(inR_i64 (by omega) (by omega)), (inR_i64 (by omega) (by omega)), trivial⟩ ?_
  refine aw_seq ?_
  refine aR [] [3, 6, 10, 12, 13] [3] [.ref 3 0, slHyp true v_2, slMatch true v_3, I (t_1.Pen * ((ik_1.Strokes.length : Int) - 1)), I 0] [some (bxStoreT v_1)] [] hB trivial ?_
  refine aw_block ?_
  refine aw_loop (fun gn gσ => ∃ (i : Int), gn = ((v_2.length : Int) - i).toNat ∧ (0 ≤ i ∧ i ≤ (v_2.length : Int)) ∧ gσ = mkS [(3, .ref 3 0), (6, slHyp true v_2), (10, slMatch true v_3), (12, I (t_1.Pen * ((ik_1.Strokes.length : Int) - 1))), (13, I i)] [(3, bxStoreT v_1)]) (((v_2.length : Int) - 0).toNat) ⟨0, rfl, (by omega), rfl⟩ (fun gn gσ hI => ?_)
  obtain ⟨i, rfl, hi0, rfl⟩ := hI
  refine aw_seq ?_
  refine aw_seq ?_
  by_cases h3 : i < (v_2.length : Int)
  ·have hi : i.toNat < v_2.length := by omega
   have hmi := at_mem hi
   obtain ⟨m0, hm0, hm1⟩ := hrf.2.2.1 _ hmi
   obtain ⟨k0, hk0, hk1⟩ := mem_atT hm0
   refine aw_r [(3, .dec true)] [3, 6, 10, 12, 13, 78] [3] [.ref 3 0, slHyp true v_2, slMatch true v_3, I (t_1.Pen * ((ik_1.Strokes.length : Int) - 1)), I i, Bv true] [some (bxStoreT v_1)] [i < (v_2.length : Int)] hB ⟨h3, trivial⟩ ?_
   refine ae_then ?_
   refine aw_true rfl ?_
   refine aw_skip ?_
   refine ae_then ?_
   refine aw_seq ?_
   refine aw_block ?_
   refine aR [] [3, 6, 10, 12, 13, 14] [3] [.ref 3 0, slHyp true v_2, slMatch true v_3, I (t_1.Pen * ((ik_1.Strokes.length : Int) - 1)), I i, Bv false] [some (bxStoreT v_1)] [] hB trivial ?_
   refine aw_seq ?_
   refine aR [] [3, 6, 10, 12, 13, 14, 15] [3] [.ref 3 0, slHyp true v_2, slMatch true v_3, I (t_1.Pen * ((ik_1.Strokes.length : Int) - 1)), I i, Bv false, I 0] [some (bxStoreT v_1)] [] hB trivial ?_
   refine aw_block ?_
   refine aw_loop (fun gn gσ => ∃ (found : Bool) (k : Int), gn = ((v_3.length : Int) - k).toNat ∧ (0 ≤ k ∧ k ≤ (v_3.length : Int)) ∧ ((found = true ↔ ∃ q_ : Nat, (q_ : Int) < k ∧ hypO v_1 (penI ik_1 t_1) (at_ v_3 q_) = at_ v_2 i.toNat)) ∧ gσ = mkS [(3, .ref 3 0), (6, slHyp true v_2), (10, slMatch true v_3), (12, I (t_1.Pen * ((ik_1.Strokes.length : Int) - 1))), (13, I i), (14, Bv found), (15, I k)] [(3, bxStoreT v_1)]) (((v_3.length : Int) - 0).toNat) ⟨false, 0, rfl, (by omega), (by constructor; (intro q; cases q); (rintro ⟨k_, q, _⟩; omega)), rfl⟩ (fun gn gσ hI => ?_)
   obtain ⟨found, k, rfl, hj0, hfd, rfl⟩ := hI
   refine aw_seq ?_
   refine aw_seq ?_
   by_cases h4 : k < (v_3.length : Int)
   ·have hk : k.toNat < v_3.length := by omega
    obtain ⟨jj, hj1, hj2, hj3⟩ := mtS_mem (s := v_1) (fs := (feR ik_1 t_1.Points).1) (k := v_1.Templates.length) (by rw [← hall]; exact at_mem hk)
    have hix : (at_ v_3 k.toNat).Index = (jj : Int) := by rw [hj3]; rfl
    have hcv := mt_cv okf ((okStore_iff.1 hst).2.2 jj hj1) hj2
    have hcst : (at_ v_3 k.toNat).Cost = (mtM v_1 (feR ik_1 t_1.Points).1 jj).Cost := by rw [hj3]
    refine aw_r [(3, .dec true)] [3, 6, 10, 12, 13, 14, 15, 84] [3] [.ref 3 0, slHyp true v_2, slMatch true v_3, I (t_1.Pen * ((ik_1.Strokes.length : Int) - 1)), I i, Bv found, I k, Bv true] [some (bxStoreT v_1)] [k < (v_3.length : Int)] hB ⟨h4, trivial⟩ ?_
    refine ae_then ?_
    refine aw_true rfl ?_
    refine aw_skip ?_
    refine ae_then ?_
    refine aw_seq ?_
    refine aw_block ?_
    refine aw_seq ?_
    refine aw_seq ?_
    by_cases h5 : ((at_ v_1.Templates (((at_ v_3 k.toNat).Index).toNat)).Label) = ((at_ v_2 i.toNat).Label)
    ·have hlb := h5
     have hmn := hrf.2.2.2.1 _ hmi _ (at_mem hk) hlb
     have hmn2 : (at_ v_2 i.toNat).Cost ≤ (at_ v_3 k.toNat).Cost + t_1.Pen * ((ik_1.Strokes.length : Int) - 1) := hmn
     refine aw_r [(15, .dec false)] [3, 6, 10, 12, 13, 14, 15, 102] [3] [.ref 3 0, slHyp true v_2, slMatch true v_3, I (t_1.Pen * ((ik_1.Strokes.length : Int) - 1)), I i, Bv found, I k, Bv false] [some (bxStoreT v_1)] [(0 : Int) ≤ k ∧ k < (v_3.length : Int), (0 : Int) ≤ ((at_ v_3 k.toNat).Index) ∧ ((at_ v_3 k.toNat).Index) < (v_1.Templates.length : Int), (0 : Int) ≤ i ∧ i < (v_2.length : Int), ¬ (((at_ v_1.Templates (((at_ v_3 k.toNat).Index).toNat)).Label) ≠ ((at_ v_2 i.toNat).Label))] hB ⟨⟨(by omega), (by omega)⟩, ⟨(by omega), (by omega)⟩, ⟨(by omega), (by omega)⟩, (fun hq => hq h5), trivial⟩ ?_
     refine ae_then ?_
     refine aw_false rfl ?_
     refine aw_skip ?_
     refine ae_then ?_
     refine aw_seq ?_
     refine aR [(12, .dec false)] [3, 6, 10, 12, 13, 14, 15, 115] [3] [.ref 3 0, slHyp true v_2, slMatch true v_3, I (t_1.Pen * ((ik_1.Strokes.length : Int) - 1)), I i, Bv found, I k, Bv false] [some (bxStoreT v_1)] [(0 : Int) ≤ k ∧ k < (v_3.length : Int), inR .i64 (((at_ v_3 k.toNat).Cost) + (t_1.Pen * ((ik_1.Strokes.length : Int) - 1))), (0 : Int) ≤ i ∧ i < (v_2.length : Int), ¬ ((((at_ v_3 k.toNat).Cost) + (t_1.Pen * ((ik_1.Strokes.length : Int) - 1))) < ((at_ v_2 i.toNat).Cost))] hB ⟨⟨(by omega), (by omega)⟩, (inR_i64 (by omega) (by omega)), ⟨(by omega), (by omega)⟩, (by omega), trivial⟩ ?_
     refine aw_false rfl ?_
     refine aw_skip ?_
     refine ae_then ?_
     rcases Bool.eq_false_or_eq_true found with h6 | h6
     ·subst h6
      refine aw_r [] [3, 6, 10, 12, 13, 14, 15] [3] [.ref 3 0, slHyp true v_2, slMatch true v_3, I (t_1.Pen * ((ik_1.Strokes.length : Int) - 1)), I i, Bv true, I k] [some (bxStoreT v_1)] [] hB trivial ?_
      refine ae_block 3 ?_
      refine ae_then ?_
      refine aw_r [] [3, 6, 10, 12, 13, 14, 15] [3] [.ref 3 0, slHyp true v_2, slMatch true v_3, I (t_1.Pen * ((ik_1.Strokes.length : Int) - 1)), I i, Bv true, I (k + 1)] [some (bxStoreT v_1)] [inR .i64 (k + 1)] hB ⟨(inR_i64 (by omega) (by omega)), trivial⟩ ?_
      exact ae_again _ (by omega) ⟨true, (k + 1), rfl, (by omega), (by first | (constructor; (intro _; obtain ⟨k_, h1_, h2_⟩ := hfd.1 rfl; exact ⟨k_, by omega, h2_⟩); (intro _; rfl)) | (constructor; (intro _; exact ⟨k.toNat, by omega, hye⟩); (intro _; rfl)) | (constructor; (intro q; cases q); (rintro ⟨q_, h1_, h2_⟩; by_cases e : q_ = k.toNat; (exact absurd (e ▸ h2_) hne); (have h3_ : (q_ : Int) < k := by clear hfd; omega); (exact hfd.2 ⟨q_, h3_, h2_⟩))) | (constructor; (intro q; obtain ⟨k_, h1_, h2_⟩ := hfd.1 q; exact ⟨k_, by omega, h2_⟩); (rintro ⟨q_, h1_, h2_⟩; by_cases e : q_ = k.toNat; (exact absurd (e ▸ h2_) hne); (have h3_ : (q_ : Int) < k := by clear hfd; omega); (exact hfd.2 ⟨q_, h3_, h2_⟩)))), rfl⟩
     subst h6
     by_cases h7 : (((at_ v_3 k.toNat).Cost) + (t_1.Pen * ((ik_1.Strokes.length : Int) - 1))) = ((at_ v_2 i.toNat).Cost)
     ·have hye : hypO v_1 (penI ik_1 t_1) (at_ v_3 k.toNat) = at_ v_2 i.toNat := hyp_ext hlb h7
      refine aw_r [(14, .dec true)] [3, 6, 10, 12, 13, 14, 15] [3] [.ref 3 0, slHyp true v_2, slMatch true v_3, I (t_1.Pen * ((ik_1.Strokes.length : Int) - 1)), I i, Bv true, I k] [some (bxStoreT v_1)] [(0 : Int) ≤ k ∧ k < (v_3.length : Int), inR .i64 (((at_ v_3 k.toNat).Cost) + (t_1.Pen * ((ik_1.Strokes.length : Int) - 1))), (0 : Int) ≤ i ∧ i < (v_2.length : Int), (((at_ v_3 k.toNat).Cost) + (t_1.Pen * ((ik_1.Strokes.length : Int) - 1))) = ((at_ v_2 i.toNat).Cost)] hB ⟨⟨(by omega), (by omega)⟩, (inR_i64 (by omega) (by omega)), ⟨(by omega), (by omega)⟩, h7, trivial⟩ ?_
      refine ae_block 3 ?_
      refine ae_then ?_
      refine aw_r [] [3, 6, 10, 12, 13, 14, 15] [3] [.ref 3 0, slHyp true v_2, slMatch true v_3, I (t_1.Pen * ((ik_1.Strokes.length : Int) - 1)), I i, Bv true, I (k + 1)] [some (bxStoreT v_1)] [inR .i64 (k + 1)] hB ⟨(inR_i64 (by omega) (by omega)), trivial⟩ ?_
      exact ae_again _ (by omega) ⟨true, (k + 1), rfl, (by omega), (by first | (constructor; (intro _; obtain ⟨k_, h1_, h2_⟩ := hfd.1 rfl; exact ⟨k_, by omega, h2_⟩); (intro _; rfl)) | (constructor; (intro _; exact ⟨k.toNat, by omega, hye⟩); (intro _; rfl)) | (constructor; (intro q; cases q); (rintro ⟨q_, h1_, h2_⟩; by_cases e : q_ = k.toNat; (exact absurd (e ▸ h2_) hne); (have h3_ : (q_ : Int) < k := by clear hfd; omega); (exact hfd.2 ⟨q_, h3_, h2_⟩))) | (constructor; (intro q; obtain ⟨k_, h1_, h2_⟩ := hfd.1 q; exact ⟨k_, by omega, h2_⟩); (rintro ⟨q_, h1_, h2_⟩; by_cases e : q_ = k.toNat; (exact absurd (e ▸ h2_) hne); (have h3_ : (q_ : Int) < k := by clear hfd; omega); (exact hfd.2 ⟨q_, h3_, h2_⟩)))), rfl⟩
     have hne : ¬ hypO v_1 (penI ik_1 t_1) (at_ v_3 k.toNat) = at_ v_2 i.toNat := fun q => h7 (congrArg Hyp.Cost q)
     refine aw_r [(14, .dec false)] [3, 6, 10, 12, 13, 14, 15] [3] [.ref 3 0, slHyp true v_2, slMatch true v_3, I (t_1.Pen * ((ik_1.Strokes.length : Int) - 1)), I i, Bv false, I k] [some (bxStoreT v_1)] [(0 : Int) ≤ k ∧ k < (v_3.length : Int), inR .i64 (((at_ v_3 k.toNat).Cost) + (t_1.Pen * ((ik_1.Strokes.length : Int) - 1))), (0 : Int) ≤ i ∧ i < (v_2.length : Int), ¬ ((((at_ v_3 k.toNat).Cost) + (t_1.Pen * ((ik_1.Strokes.length : Int) - 1))) = ((at_ v_2 i.toNat).Cost))] hB ⟨⟨(by omega), (by omega)⟩, (inR_i64 (by omega) (by omega)), ⟨(by omega), (by omega)⟩, h7, trivial⟩ ?_
     refine ae_block 3 ?_
     refine ae_then ?_
     refine aw_r [] [3, 6, 10, 12, 13, 14, 15] [3] [.ref 3 0, slHyp true v_2, slMatch true v_3, I (t_1.Pen * ((ik_1.Strokes.length : Int) - 1)), I i, Bv false, I (k + 1)] [some (bxStoreT v_1)] [inR .i64 (k + 1)] hB ⟨(inR_i64 (by omega) (by omega)), trivial⟩ ?_
     exact ae_again _ (by omega) ⟨false, (k + 1), rfl, (by omega), (by first | (constructor; (intro _; obtain ⟨k_, h1_, h2_⟩ := hfd.1 rfl; exact ⟨k_, by omega, h2_⟩); (intro _; rfl)) | (constructor; (intro _; exact ⟨k.toNat, by omega, hye⟩); (intro _; rfl)) | (constructor; (intro q; cases q); (rintro ⟨q_, h1_, h2_⟩; by_cases e : q_ = k.toNat; (exact absurd (e ▸ h2_) hne); (have h3_ : (q_ : Int) < k := by clear hfd; omega); (exact hfd.2 ⟨q_, h3_, h2_⟩))) | (constructor; (intro q; obtain ⟨k_, h1_, h2_⟩ := hfd.1 q; exact ⟨k_, by omega, h2_⟩); (rintro ⟨q_, h1_, h2_⟩; by_cases e : q_ = k.toNat; (exact absurd (e ▸ h2_) hne); (have h3_ : (q_ : Int) < k := by clear hfd; omega); (exact hfd.2 ⟨q_, h3_, h2_⟩)))), rfl⟩
    have hne : ¬ hypO v_1 (penI ik_1 t_1) (at_ v_3 k.toNat) = at_ v_2 i.toNat := fun q => h5 (congrArg Hyp.Label q)
    refine aw_r [(15, .dec true)] [3, 6, 10, 12, 13, 14, 15, 102] [3] [.ref 3 0, slHyp true v_2, slMatch true v_3, I (t_1.Pen * ((ik_1.Strokes.length : Int) - 1)), I i, Bv found, I k, Bv true] [some (bxStoreT v_1)] [(0 : Int) ≤ k ∧ k < (v_3.length : Int), (0 : Int) ≤ ((at_ v_3 k.toNat).Index) ∧ ((at_ v_3 k.toNat).Index) < (v_1.Templates.length : Int), (0 : Int) ≤ i ∧ i < (v_2.length : Int), ((at_ v_1.Templates (((at_ v_3 k.toNat).Index).toNat)).Label) ≠ ((at_ v_2 i.toNat).Label)] hB ⟨⟨(by omega), (by omega)⟩, ⟨(by omega), (by omega)⟩, ⟨(by omega), (by omega)⟩, h5, trivial⟩ ?_
    refine ae_then ?_
    refine aw_true rfl ?_
    refine aw_exit ?_
    refine ae_exit_then ?_
    refine ae_exit_same ?_
    refine ae_then ?_
    refine aw_r [] [3, 6, 10, 12, 13, 14, 15] [3] [.ref 3 0, slHyp true v_2, slMatch true v_3, I (t_1.Pen * ((ik_1.Strokes.length : Int) - 1)), I i, Bv found, I (k + 1)] [some (bxStoreT v_1)] [inR .i64 (k + 1)] hB ⟨(inR_i64 (by omega) (by omega)), trivial⟩ ?_
    exact ae_again _ (by omega) ⟨found, (k + 1), rfl, (by omega), (by first | (constructor; (intro _; obtain ⟨k_, h1_, h2_⟩ := hfd.1 rfl; exact ⟨k_, by omega, h2_⟩); (intro _; rfl)) | (constructor; (intro _; exact ⟨k.toNat, by omega, hye⟩); (intro _; rfl)) | (constructor; (intro q; cases q); (rintro ⟨q_, h1_, h2_⟩; by_cases e : q_ = k.toNat; (exact absurd (e ▸ h2_) hne); (have h3_ : (q_ : Int) < k := by clear hfd; omega); (exact hfd.2 ⟨q_, h3_, h2_⟩))) | (constructor; (intro q; obtain ⟨k_, h1_, h2_⟩ := hfd.1 q; exact ⟨k_, by omega, h2_⟩); (rintro ⟨q_, h1_, h2_⟩; by_cases e : q_ = k.toNat; (exact absurd (e ▸ h2_) hne); (have h3_ : (q_ : Int) < k := by clear hfd; omega); (exact hfd.2 ⟨q_, h3_, h2_⟩)))), rfl⟩
   refine aw_r [(3, .dec false)] [3, 6, 10, 12, 13, 14, 15, 84] [3] [.ref 3 0, slHyp true v_2, slMatch true v_3, I (t_1.Pen * ((ik_1.Strokes.length : Int) - 1)), I i, Bv found, I k, Bv false] [some (bxStoreT v_1)] [¬ (k < (v_3.length : Int))] hB ⟨h4, trivial⟩ ?_
   refine ae_then ?_
   refine aw_false rfl ?_
   refine aw_exit ?_
   refine ae_exit_then ?_
   refine ae_exit_then ?_
   refine ae_exit_same ?_
   refine ae_then ?_
   refine aw_seq ?_
   obtain rfl : found = true := (hfd.2 ⟨k0, by omega, by rw [hk1]; exact hm1⟩)
   refine aw_r [] [3, 6, 10, 12, 13, 133] [3] [.ref 3 0, slHyp true v_2, slMatch true v_3, I (t_1.Pen * ((ik_1.Strokes.length : Int) - 1)), I i, Bv false] [some (bxStoreT v_1)] [] hB trivial ?_
   refine ae_then ?_
   refine aw_false rfl ?_
   refine aw_skip ?_
   refine ae_block 1 ?_
   refine ae_then ?_
   refine aw_r [] [3, 6, 10, 12, 13] [3] [.ref 3 0, slHyp true v_2, slMatch true v_3, I (t_1.Pen * ((ik_1.Strokes.length : Int) - 1)), I (i + 1)] [some (bxStoreT v_1)] [inR .i64 (i + 1)] hB ⟨(inR_i64 (by omega) (by omega)), trivial⟩ ?_
   exact ae_again _ (by omega) ⟨(i + 1), rfl, (by omega), rfl⟩
  refine aw_r [(3, .dec false)] [3, 6, 10, 12, 13, 78] [3] [.ref 3 0, slHyp true v_2, slMatch true v_3, I (t_1.Pen * ((ik_1.Strokes.length : Int) - 1)), I i, Bv false] [some (bxStoreT v_1)] [¬ (i < (v_2.length : Int))] hB ⟨h3, trivial⟩ ?_
  refine ae_then ?_
  refine aw_false rfl ?_
  refine aw_exit ?_
  refine ae_exit_then ?_
  refine ae_exit_then ?_
  refine ae_exit_same ?_
  refine ae_then ?_
  refine aw_seq ?_
  by_cases h8 : 0 < (v_2.length : Int)
  ·refine aw_r [(2, .dec true)] [2] [] [Bv true] [] [0 < (v_2.length : Int)] hB ⟨h8, trivial⟩ ?_
   refine ae_then ?_
   refine aw_ret ?_
   refine ae_ret hB (Bv true) (by kernel_rfl) (.inl rfl) rfl (fun _ => trivial)
  refine aw_r [(2, .dec false)] [2] [] [Bv (decide ((v_3.length : Int) = 0))] [] [¬ (0 < (v_2.length : Int))] hB ⟨h8, trivial⟩ ?_
  refine ae_then ?_
  refine aw_ret ?_
  refine ae_ret hB (Bv (decide ((v_3.length : Int) = 0))) (by kernel_rfl) (.inl (by first | rfl | (refine congrArg Bv ?_; simp [*]; done) | (refine congrArg Bv ?_; simp_all; done) | (refine congrArg Bv ?_; simp [*]; omega))) rfl (fun _ => trivial)





theorem opens_t22 : OpensA Tryz.prog 22 (cLU8 false) (fun xs => ∀ y ∈ xs, inR .u8 y) :=
  opensA_slice (c := cU8) (sz := 1) Tryz.underlying22 (by kernel_rfl) (by decide) (fun x => ⟨rfl, by simp [oneA, cU8]⟩) (opensA_int Tryz.underlying5)


namespace fnGuesses
set_option maxRecDepth 100000 in
theorem lifted (os : Os) (started : os.Started) (H : Type) (enc : TypeId × Value → H) :
    ReturnsInHanded {} Tryz.checked os 3 .any (Rows.fnGuessesSpec.pre6 enc Tryz.prog Tryz.f3 Rows.fnGuessesRow.domain false) (Rows.fnGuessesSpec.post enc Tryz.prog Tryz.f3 false true false false) := by
  refine returnsInHanded_of_change_shaped (C := Tryz.checked) Tryz.own started (by kernel_rfl) Tryz.func3
    (ChangeSpec.witness6 (enc := enc) (C := Tryz.checked) false ⟨#[], #[.slice none 0 0], []⟩ 8 (by kernel_rfl) (by kernel_rfl) (by kernel_rfl) (by kernel_rfl)) ?_
  intro W base args ds gs before hval0 hW hcnd hsz hshp _
  have hW' := hW
  obtain ⟨p, q, hA0, hV, rfl, hfz, hnd⟩ := hW
  have hval : ∀ (j : Nat) t v, Tryz.f3.params[j]? = some t → args[j]? = some v → Value.okWide Tryz.prog W .any base t v := hval0
  have hA : DataW.TrodAll enc Tryz.prog W 0 (fun _ => true) true Tryz.f3.params.toList args.toList ds p := hA0
  rw [Tryz.params3] at hA hval
  obtain ⟨v0, vs0, d0, ds0, p0, q0, hargs, rfl, rfl, h0, r0⟩ := trodAll_cons hA
  obtain ⟨rfl, rfl, rfl⟩ := trodAll_nil r0
  obtain rfl : args = #[v0] := args_eq hargs
  obtain ⟨rfl, rfl⟩ := trodVars_none hV
  obtain ⟨fuel0, hf0⟩ := h0
  obtain ⟨A0, l0, c0, rfl⟩ := okWide_slice Tryz.underlying22 (hval 0 22 v0 rfl rfl)
  obtain ⟨x0, rx0, ok0⟩ := (opens_t22) enc W 0 _ _ _ _ _ hf0
  refine (walk_of0 (fnGuesses_con x0 ok0) (fun w _ => WX_free w) (RelTL.cons (relTL_one rx0) RelTL.nil)).mono fun e W1 ⟨he, hb⟩ => ?_
  subst he
  exact ⟨_, rfl, law_post Tryz.laidOut rfl Tryz.underlying4 (of_decide_eq_true (by kernel_rfl)) rfl hW' hb rfl⟩

theorem over : Rows.fnGuessesRow.holds Tryz.pinned (OpenSpec.ofChange Rows.fnGuessesSpec) :=
  OpenClaim.holds_of_wide 3 Tryz.f3 rfl rfl rfl rfl rfl rfl rfl ⟨rfl, rfl, rfl, rfl, rfl⟩ rfl rfl rfl rfl rfl (by kernel_rfl) Tryz.func3 (by kernel_rfl)
    (of_decide_eq_true (by kernel_rfl)) (by unfold Func.isWrapper; first | (rw [if_pos (by decide +kernel)]; kernel_rfl) | (rw [if_neg (by decide +kernel)]; exact ⟨rfl, rfl⟩))
    (fun os started H enc _ => lifted os started H enc)

theorem proved : Rows.FnGuessesSaid :=
  over
#print axioms proved
end fnGuesses

end Go.Proofs.YtinncgigkiclpaaGreat.Ax
