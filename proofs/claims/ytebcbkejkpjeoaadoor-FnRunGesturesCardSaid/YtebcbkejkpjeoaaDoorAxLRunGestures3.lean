/- Contracts that the statement FnRunGestures reaches, part 3. No conditions. -/
import Derived.Test.YtebcbkejkpjeoaaDoorAxLRunGestures2
import Derived.LaidMore
import Derived.Lay
import Derived.OpenShut
import Derived.SevenTiedAt
import Derived.Shelf.Strings.SlTrimAscii
import Derived.Stop.Joined
namespace Go.Proofs.YtebcbkejkpjeoaaDoor.Ax
open Go.RowKit Go.ChangeShapes Go.WideShapes
set_option linter.unusedVariables false
set_option linter.unusedSimpArgs false


-- impl.gestureOf
theorem gestureOf_ok (s : Stroke) (ok : okStroke' s = true) : Con Tryd.prog 61 [.agg [slPoint false s.Points]] true (I (gestI s)) := by
  have hln := okS_len ok
  have hpf := okS_at ok (j := 0) (by omega)
  have hpl := okS_at ok (j := s.Points.length - 1) (by omega)
  have hpf' := okP_iff.1 hpf
  have hpl' := okP_iff.1 hpl
  have hbx := boxS_all ok
  unfold okBox at hbx
  have hsb := sumS_bd ok s.Points.length (Nat.le_refl _)
  have heb := ends_bd ok
  have hle : ((s.Points.length : Int) - 1).toNat = s.Points.length - 1 := by omega
  have hplz : okP (at_ s.Points ((s.Points.length : Int) - 1).toNat) = true := by rw [hle]; exact hpl
  have hplz' := okP_iff.1 hplz
  have heb2 := segI_bd hpf hplz
  have heb3 := segI_bd hpf hpl
  have hbtb := bendT_bd ok
  refine fn_ok (fn := Tryd.f61) (nt := 86) Tryd.func61 rfl rfl rfl rfl (by simp [taggedL, tagged, tagPoint]) fun B hB => ?_
  refine aw_lens (x := .agg [slPoint false s.Points]) 0 rfl (fun len_s => ?_)
  simp [LenOK, LenL, cPoint, fPoint, slPoint] at len_s
  refine aw_seq ?_
  refine aw_reg [(0, .new 1)] [1] [1] [.ref 1 0] [some (.box [slPoint false s.Points])] [] (by kernel_rfl) hB trivial ?_
  refine ae_then ?_
  refine aw_seq ?_
  refine aw_reg [(1, .call [(true, .agg [slPoint false s.Points])] true (I (sumS s.Points s.Points.length))), (3, .call [(true, .agg [slPoint false s.Points])] true (I ((revS s.Points s.Points.length).1)))] [1, 3, 4] [1] [.ref 1 0, I (sumS s.Points s.Points.length), I ((revS s.Points s.Points.length).1)] [some (.box [slPoint false s.Points])] [Con Tryd.prog 89 [.agg [slPoint false s.Points]] true (I (sumS s.Points s.Points.length)) ∧ ((.agg [slPoint false s.Points] : AV) = .agg [slPoint false s.Points]) ∧ True, Con Tryd.prog 90 [.agg [slPoint false s.Points]] true (I ((revS s.Points s.Points.length).1)) ∧ ((.agg [slPoint false s.Points] : AV) = .agg [slPoint false s.Points]) ∧ True] (by kernel_rfl) hB ⟨⟨(strokeLength_ok s ok), rfl, trivial⟩, ⟨(reversalsOf_ok s ok), rfl, trivial⟩, trivial⟩ ?_
  refine ae_then ?_
  refine aw_seq ?_
  refine aw_reg [(1, .call [(true, .agg [slPoint false s.Points])] true (.tup [I (bendT s), I 0]))] [1, 3, 4, 5] [1] [.ref 1 0, I (sumS s.Points s.Points.length), I ((revS s.Points s.Points.length).1), I (bendT s)] [some (.box [slPoint false s.Points])] [Con Tryd.prog 91 [.agg [slPoint false s.Points]] true (.tup [I (bendT s), I 0]) ∧ ((.agg [slPoint false s.Points] : AV) = .agg [slPoint false s.Points]) ∧ True] (by kernel_rfl) hB ⟨⟨(BendOf_ok s ok), rfl, trivial⟩, trivial⟩ ?_
  refine ae_then ?_
  refine aw_seq ?_
  refine aw_reg [(1, .call [(true, .agg [slPoint false s.Points])] true (.tup [I (strI s), I 0]))] [1, 3, 4, 5, 7] [1] [.ref 1 0, I (sumS s.Points s.Points.length), I ((revS s.Points s.Points.length).1), I (bendT s), I (strI s)] [some (.box [slPoint false s.Points])] [Con Tryd.prog 92 [.agg [slPoint false s.Points]] true (.tup [I (strI s), I 0]) ∧ ((.agg [slPoint false s.Points] : AV) = .agg [slPoint false s.Points]) ∧ True] (by kernel_rfl) hB ⟨⟨(StraightOf_ok s ok), rfl, trivial⟩, trivial⟩ ?_
  refine ae_then ?_
  refine aw_seq ?_
  refine aw_reg [(1, .call [(true, .agg [slPoint false s.Points])] true (agPoint (at_ s.Points 0))), (3, .call [(true, .agg [slPoint false s.Points])] true (agPoint (at_ s.Points (s.Points.length - 1)))), (5, .call [(true, .agg [slPoint false s.Points])] true (agBox (boxS s.Points s.Points.length))), (6, .new 9), (7, .new 10), (8, .new 11)] [3, 4, 5, 7, 9, 10, 11] [9, 10, 11] [I (sumS s.Points s.Points.length), I ((revS s.Points s.Points.length).1), I (bendT s), I (strI s), .ref 9 0, .ref 10 0, .ref 11 0] [some (bxPoint (at_ s.Points 0)), some (bxPoint (at_ s.Points (s.Points.length - 1))), some (bxBox (boxS s.Points s.Points.length))] [Con Tryd.prog 93 [.agg [slPoint false s.Points]] true (agPoint (at_ s.Points 0)) ∧ ((.agg [slPoint false s.Points] : AV) = .agg [slPoint false s.Points]) ∧ True, Con Tryd.prog 94 [.agg [slPoint false s.Points]] true (agPoint (at_ s.Points (s.Points.length - 1))) ∧ ((.agg [slPoint false s.Points] : AV) = .agg [slPoint false s.Points]) ∧ True, Con Tryd.prog 62 [.agg [slPoint false s.Points]] true (agBox (boxS s.Points s.Points.length)) ∧ ((.agg [slPoint false s.Points] : AV) = .agg [slPoint false s.Points]) ∧ True] (by kernel_rfl) hB ⟨⟨(firstOf_ok s ok), rfl, trivial⟩, ⟨(lastOf_ok s ok), rfl, trivial⟩, ⟨(boxOfStroke_ok s ok), rfl, trivial⟩, trivial⟩ ?_
  refine ae_then ?_
  refine aw_seq ?_
  refine aw_reg [] [3, 4, 5, 7, 9, 10, 11, 12] [9, 10, 11] [I (sumS s.Points s.Points.length), I ((revS s.Points s.Points.length).1), I (bendT s), I (strI s), .ref 9 0, .ref 10 0, .ref 11 0, I (((boxS s.Points s.Points.length).Y2) - ((boxS s.Points s.Points.length).Y1))] [some (bxPoint (at_ s.Points 0)), some (bxPoint (at_ s.Points (s.Points.length - 1))), some (bxBox (boxS s.Points s.Points.length))] [inR .i64 (((boxS s.Points s.Points.length).Y2) - ((boxS s.Points s.Points.length).Y1))] (by kernel_rfl) hB ⟨(inR_i64 (by omega) (by omega)), trivial⟩ ?_
  refine ae_then ?_
  refine aw_seq ?_
  refine aw_block ?_
  refine aw_seq ?_
  by_cases h1 : (sumS s.Points s.Points.length) ≤ 160
  ·refine aw_reg [(1, .dec true)] [3, 4, 5, 7, 9, 10, 11, 12, 38] [9, 10, 11] [I (sumS s.Points s.Points.length), I ((revS s.Points s.Points.length).1), I (bendT s), I (strI s), .ref 9 0, .ref 10 0, .ref 11 0, I (((boxS s.Points s.Points.length).Y2) - ((boxS s.Points s.Points.length).Y1)), Bv true] [some (bxPoint (at_ s.Points 0)), some (bxPoint (at_ s.Points (s.Points.length - 1))), some (bxBox (boxS s.Points s.Points.length))] [(sumS s.Points s.Points.length) ≤ 160] (by kernel_rfl) hB ⟨h1, trivial⟩ ?_
   refine ae_then ?_
   refine aw_true rfl ?_
   refine aw_seq ?_
   refine aw_reg [] [2] [] [I 1] [] [] (by kernel_rfl) hB trivial ?_
   refine ae_then ?_
   refine aw_ret ?_
   refine ae_ret_block (ae_ret_then ?_)
   refine ae_ret hB (I 1) (by kernel_rfl) (.inl (by refine congrArg I ?_; unfold gestI endsI caretB; simp_all [hle]; try omega)) rfl (fun _ => trivial)
  ·refine aw_reg [(1, .dec false)] [3, 4, 5, 7, 9, 10, 11, 12, 38] [9, 10, 11] [I (sumS s.Points s.Points.length), I ((revS s.Points s.Points.length).1), I (bendT s), I (strI s), .ref 9 0, .ref 10 0, .ref 11 0, I (((boxS s.Points s.Points.length).Y2) - ((boxS s.Points s.Points.length).Y1)), Bv false] [some (bxPoint (at_ s.Points 0)), some (bxPoint (at_ s.Points (s.Points.length - 1))), some (bxBox (boxS s.Points s.Points.length))] [¬ ((sumS s.Points s.Points.length) ≤ 160)] (by kernel_rfl) hB ⟨h1, trivial⟩ ?_
   refine ae_then ?_
   refine aw_false rfl ?_
   refine aw_seq ?_
   by_cases h2 : 3 ≤ ((revS s.Points s.Points.length).1)
   ·refine aw_reg [(1, .dec true)] [3, 4, 5, 7, 9, 10, 11, 12, 41] [9, 10, 11] [I (sumS s.Points s.Points.length), I ((revS s.Points s.Points.length).1), I (bendT s), I (strI s), .ref 9 0, .ref 10 0, .ref 11 0, I (((boxS s.Points s.Points.length).Y2) - ((boxS s.Points s.Points.length).Y1)), Bv true] [some (bxPoint (at_ s.Points 0)), some (bxPoint (at_ s.Points (s.Points.length - 1))), some (bxBox (boxS s.Points s.Points.length))] [3 ≤ ((revS s.Points s.Points.length).1)] (by kernel_rfl) hB ⟨h2, trivial⟩ ?_
    refine ae_then ?_
    refine aw_true rfl ?_
    refine aw_seq ?_
    refine aw_reg [] [2] [] [I 2] [] [] (by kernel_rfl) hB trivial ?_
    refine ae_then ?_
    refine aw_ret ?_
    refine ae_ret_block (ae_ret_then ?_)
    refine ae_ret hB (I 2) (by kernel_rfl) (.inl (by refine congrArg I ?_; unfold gestI endsI caretB; simp_all [hle]; try omega)) rfl (fun _ => trivial)
   ·refine aw_reg [(1, .dec false)] [3, 4, 5, 7, 9, 10, 11, 12, 41] [9, 10, 11] [I (sumS s.Points s.Points.length), I ((revS s.Points s.Points.length).1), I (bendT s), I (strI s), .ref 9 0, .ref 10 0, .ref 11 0, I (((boxS s.Points s.Points.length).Y2) - ((boxS s.Points s.Points.length).Y1)), Bv false] [some (bxPoint (at_ s.Points 0)), some (bxPoint (at_ s.Points (s.Points.length - 1))), some (bxBox (boxS s.Points s.Points.length))] [¬ (3 ≤ ((revS s.Points s.Points.length).1))] (by kernel_rfl) hB ⟨h2, trivial⟩ ?_
    refine ae_then ?_
    refine aw_false rfl ?_
    refine aw_seq ?_
    by_cases h3 : 6 ≤ ((bendT s).natAbs : Int)
    ·by_cases h4 : (4 * (segI (at_ s.Points 0) (at_ s.Points (s.Points.length - 1)))) ≤ (sumS s.Points s.Points.length)
     ·refine aw_reg [(1, .call [(true, I (bendT s))] true (I ((bendT s).natAbs : Int))), (2, .dec true), (6, .call [(true, agPoint (at_ s.Points 0)), (true, agPoint (at_ s.Points (s.Points.length - 1)))] true (I (segI (at_ s.Points 0) (at_ s.Points (s.Points.length - 1))))), (9, .dec true)] [4, 7, 9, 10, 11, 12, 44] [9, 10, 11] [I ((revS s.Points s.Points.length).1), I (strI s), .ref 9 0, .ref 10 0, .ref 11 0, I (((boxS s.Points s.Points.length).Y2) - ((boxS s.Points s.Points.length).Y1)), Bv true] [some (bxPoint (at_ s.Points 0)), some (bxPoint (at_ s.Points (s.Points.length - 1))), some (bxBox (boxS s.Points s.Points.length))] [Con Tryd.prog 95 [I (bendT s)] true (I ((bendT s).natAbs : Int)) ∧ ((I (bendT s) : AV) = I (bendT s)) ∧ True, 6 ≤ ((bendT s).natAbs : Int), Con Tryd.prog 96 [agPoint (at_ s.Points 0), agPoint (at_ s.Points (s.Points.length - 1))] true (I (segI (at_ s.Points 0) (at_ s.Points (s.Points.length - 1)))) ∧ ((agPoint (at_ s.Points 0) : AV) = agPoint (at_ s.Points 0)) ∧ ((agPoint (at_ s.Points (s.Points.length - 1)) : AV) = agPoint (at_ s.Points (s.Points.length - 1))) ∧ True, inR .i64 (4 * (segI (at_ s.Points 0) (at_ s.Points (s.Points.length - 1)))), (4 * (segI (at_ s.Points 0) (at_ s.Points (s.Points.length - 1)))) ≤ (sumS s.Points s.Points.length)] (by kernel_rfl) hB ⟨⟨(abs_ok (bendT s) (by omega)), rfl, trivial⟩, h3, ⟨(lengthOf_ok (at_ s.Points 0) (at_ s.Points (s.Points.length - 1)) (by assumption) (by assumption)), rfl, rfl, trivial⟩, (inR_i64 (by omega) (by omega)), h4, trivial⟩ ?_
      refine ae_then ?_
      refine aw_true rfl ?_
      refine aw_seq ?_
      refine aw_reg [] [2] [] [I 3] [] [] (by kernel_rfl) hB trivial ?_
      refine ae_then ?_
      refine aw_ret ?_
      refine ae_ret_block (ae_ret_then ?_)
      refine ae_ret hB (I 3) (by kernel_rfl) (.inl (by refine congrArg I ?_; unfold gestI endsI caretB; simp_all [hle]; try omega)) rfl (fun _ => trivial)
     ·refine aw_reg [(1, .call [(true, I (bendT s))] true (I ((bendT s).natAbs : Int))), (2, .dec true), (6, .call [(true, agPoint (at_ s.Points 0)), (true, agPoint (at_ s.Points (s.Points.length - 1)))] true (I (segI (at_ s.Points 0) (at_ s.Points (s.Points.length - 1))))), (9, .dec false)] [4, 7, 9, 10, 11, 12, 44] [9, 10, 11] [I ((revS s.Points s.Points.length).1), I (strI s), .ref 9 0, .ref 10 0, .ref 11 0, I (((boxS s.Points s.Points.length).Y2) - ((boxS s.Points s.Points.length).Y1)), Bv false] [some (bxPoint (at_ s.Points 0)), some (bxPoint (at_ s.Points (s.Points.length - 1))), some (bxBox (boxS s.Points s.Points.length))] [Con Tryd.prog 95 [I (bendT s)] true (I ((bendT s).natAbs : Int)) ∧ ((I (bendT s) : AV) = I (bendT s)) ∧ True, 6 ≤ ((bendT s).natAbs : Int), Con Tryd.prog 96 [agPoint (at_ s.Points 0), agPoint (at_ s.Points (s.Points.length - 1))] true (I (segI (at_ s.Points 0) (at_ s.Points (s.Points.length - 1)))) ∧ ((agPoint (at_ s.Points 0) : AV) = agPoint (at_ s.Points 0)) ∧ ((agPoint (at_ s.Points (s.Points.length - 1)) : AV) = agPoint (at_ s.Points (s.Points.length - 1))) ∧ True, inR .i64 (4 * (segI (at_ s.Points 0) (at_ s.Points (s.Points.length - 1)))), ¬ ((4 * (segI (at_ s.Points 0) (at_ s.Points (s.Points.length - 1)))) ≤ (sumS s.Points s.Points.length))] (by kernel_rfl) hB ⟨⟨(abs_ok (bendT s) (by omega)), rfl, trivial⟩, h3, ⟨(lengthOf_ok (at_ s.Points 0) (at_ s.Points (s.Points.length - 1)) (by assumption) (by assumption)), rfl, rfl, trivial⟩, (inR_i64 (by omega) (by omega)), h4, trivial⟩ ?_
      refine ae_then ?_
      refine aw_false rfl ?_
      refine aw_seq ?_
      by_cases h5 : ((revS s.Points s.Points.length).1) = 0
      ·by_cases h6 : 0 < (((boxS s.Points s.Points.length).Y2) - ((boxS s.Points s.Points.length).Y1))
       ·by_cases h7 : (((boxS s.Points s.Points.length).Y2) - ((boxS s.Points s.Points.length).Y1)) ≤ (2 * (((at_ s.Points 0).Y) - ((boxS s.Points s.Points.length).Y1)))
        ·by_cases h8 : (((boxS s.Points s.Points.length).Y2) - ((boxS s.Points s.Points.length).Y1)) ≤ (2 * (((at_ s.Points (s.Points.length - 1)).Y) - ((boxS s.Points s.Points.length).Y1)))
         ·refine aw_reg [(1, .dec true), (4, .dec true), (14, .dec true), (24, .dec true)] [7, 56] [] [I (strI s), Bv true] [] [((revS s.Points s.Points.length).1) = 0, 0 < (((boxS s.Points s.Points.length).Y2) - ((boxS s.Points s.Points.length).Y1)), inR .i64 (((at_ s.Points 0).Y) - ((boxS s.Points s.Points.length).Y1)), inR .i64 (2 * (((at_ s.Points 0).Y) - ((boxS s.Points s.Points.length).Y1))), (((boxS s.Points s.Points.length).Y2) - ((boxS s.Points s.Points.length).Y1)) ≤ (2 * (((at_ s.Points 0).Y) - ((boxS s.Points s.Points.length).Y1))), inR .i64 (((at_ s.Points (s.Points.length - 1)).Y) - ((boxS s.Points s.Points.length).Y1)), inR .i64 (2 * (((at_ s.Points (s.Points.length - 1)).Y) - ((boxS s.Points s.Points.length).Y1))), (((boxS s.Points s.Points.length).Y2) - ((boxS s.Points s.Points.length).Y1)) ≤ (2 * (((at_ s.Points (s.Points.length - 1)).Y) - ((boxS s.Points s.Points.length).Y1)))] (by kernel_rfl) hB ⟨h5, h6, (inR_i64 (by omega) (by omega)), (inR_i64 (by omega) (by omega)), h7, (inR_i64 (by omega) (by omega)), (inR_i64 (by omega) (by omega)), h8, trivial⟩ ?_
          refine ae_then ?_
          refine aw_true rfl ?_
          refine aw_seq ?_
          refine aw_reg [] [2] [] [I 4] [] [] (by kernel_rfl) hB trivial ?_
          refine ae_then ?_
          refine aw_ret ?_
          refine ae_ret_block (ae_ret_then ?_)
          refine ae_ret hB (I 4) (by kernel_rfl) (.inl (by refine congrArg I ?_; unfold gestI endsI caretB; simp_all [hle]; try omega)) rfl (fun _ => trivial)
         ·refine aw_reg [(1, .dec true), (4, .dec true), (14, .dec true), (24, .dec false)] [7, 56] [] [I (strI s), Bv false] [] [((revS s.Points s.Points.length).1) = 0, 0 < (((boxS s.Points s.Points.length).Y2) - ((boxS s.Points s.Points.length).Y1)), inR .i64 (((at_ s.Points 0).Y) - ((boxS s.Points s.Points.length).Y1)), inR .i64 (2 * (((at_ s.Points 0).Y) - ((boxS s.Points s.Points.length).Y1))), (((boxS s.Points s.Points.length).Y2) - ((boxS s.Points s.Points.length).Y1)) ≤ (2 * (((at_ s.Points 0).Y) - ((boxS s.Points s.Points.length).Y1))), inR .i64 (((at_ s.Points (s.Points.length - 1)).Y) - ((boxS s.Points s.Points.length).Y1)), inR .i64 (2 * (((at_ s.Points (s.Points.length - 1)).Y) - ((boxS s.Points s.Points.length).Y1))), ¬ ((((boxS s.Points s.Points.length).Y2) - ((boxS s.Points s.Points.length).Y1)) ≤ (2 * (((at_ s.Points (s.Points.length - 1)).Y) - ((boxS s.Points s.Points.length).Y1))))] (by kernel_rfl) hB ⟨h5, h6, (inR_i64 (by omega) (by omega)), (inR_i64 (by omega) (by omega)), h7, (inR_i64 (by omega) (by omega)), (inR_i64 (by omega) (by omega)), h8, trivial⟩ ?_
          refine ae_then ?_
          refine aw_false rfl ?_
          refine aw_seq ?_
          by_cases h9 : 900 ≤ (strI s)
          ·refine aw_reg [(1, .dec true)] [83] [] [Bv true] [] [900 ≤ (strI s)] (by kernel_rfl) hB ⟨h9, trivial⟩ ?_
           refine ae_then ?_
           refine aw_true rfl ?_
           refine aw_seq ?_
           refine aw_reg [] [2] [] [I 5] [] [] (by kernel_rfl) hB trivial ?_
           refine ae_then ?_
           refine aw_ret ?_
           refine ae_ret_block (ae_ret_then ?_)
           refine ae_ret hB (I 5) (by kernel_rfl) (.inl (by refine congrArg I ?_; unfold gestI endsI caretB; simp_all [hle]; try omega)) rfl (fun _ => trivial)
          ·refine aw_reg [(1, .dec false)] [83] [] [Bv false] [] [¬ (900 ≤ (strI s))] (by kernel_rfl) hB ⟨h9, trivial⟩ ?_
           refine ae_then ?_
           refine aw_false rfl ?_
           refine aw_skip ?_
           refine ae_block 0 ?_
           refine ae_then ?_
           refine aw_seq ?_
           refine aw_reg [] [2] [] [I 0] [] [] (by kernel_rfl) hB trivial ?_
           refine ae_then ?_
           refine aw_ret ?_
           refine ae_ret hB (I 0) (by kernel_rfl) (.inl (by refine congrArg I ?_; unfold gestI endsI caretB; simp_all [hle]; try omega)) rfl (fun _ => trivial)
        ·refine aw_reg [(1, .dec true), (4, .dec true), (14, .dec false)] [7, 56] [] [I (strI s), Bv false] [] [((revS s.Points s.Points.length).1) = 0, 0 < (((boxS s.Points s.Points.length).Y2) - ((boxS s.Points s.Points.length).Y1)), inR .i64 (((at_ s.Points 0).Y) - ((boxS s.Points s.Points.length).Y1)), inR .i64 (2 * (((at_ s.Points 0).Y) - ((boxS s.Points s.Points.length).Y1))), ¬ ((((boxS s.Points s.Points.length).Y2) - ((boxS s.Points s.Points.length).Y1)) ≤ (2 * (((at_ s.Points 0).Y) - ((boxS s.Points s.Points.length).Y1))))] (by kernel_rfl) hB ⟨h5, h6, (inR_i64 (by omega) (by omega)), (inR_i64 (by omega) (by omega)), h7, trivial⟩ ?_
         refine ae_then ?_
         refine aw_false rfl ?_
         refine aw_seq ?_
         by_cases h10 : 900 ≤ (strI s)
         ·refine aw_reg [(1, .dec true)] [83] [] [Bv true] [] [900 ≤ (strI s)] (by kernel_rfl) hB ⟨h10, trivial⟩ ?_
          refine ae_then ?_
          refine aw_true rfl ?_
          refine aw_seq ?_
          refine aw_reg [] [2] [] [I 5] [] [] (by kernel_rfl) hB trivial ?_
          refine ae_then ?_
          refine aw_ret ?_
          refine ae_ret_block (ae_ret_then ?_)
          refine ae_ret hB (I 5) (by kernel_rfl) (.inl (by refine congrArg I ?_; unfold gestI endsI caretB; simp_all [hle]; try omega)) rfl (fun _ => trivial)
         ·refine aw_reg [(1, .dec false)] [83] [] [Bv false] [] [¬ (900 ≤ (strI s))] (by kernel_rfl) hB ⟨h10, trivial⟩ ?_
          refine ae_then ?_
          refine aw_false rfl ?_
          refine aw_skip ?_
          refine ae_block 0 ?_
          refine ae_then ?_
          refine aw_seq ?_
          refine aw_reg [] [2] [] [I 0] [] [] (by kernel_rfl) hB trivial ?_
          refine ae_then ?_
          refine aw_ret ?_
          refine ae_ret hB (I 0) (by kernel_rfl) (.inl (by refine congrArg I ?_; unfold gestI endsI caretB; simp_all [hle]; try omega)) rfl (fun _ => trivial)
       ·refine aw_reg [(1, .dec true), (4, .dec false)] [7, 56] [] [I (strI s), Bv false] [] [((revS s.Points s.Points.length).1) = 0, ¬ (0 < (((boxS s.Points s.Points.length).Y2) - ((boxS s.Points s.Points.length).Y1)))] (by kernel_rfl) hB ⟨h5, h6, trivial⟩ ?_
        refine ae_then ?_
        refine aw_false rfl ?_
        refine aw_seq ?_
        by_cases h11 : 900 ≤ (strI s)
        ·refine aw_reg [(1, .dec true)] [83] [] [Bv true] [] [900 ≤ (strI s)] (by kernel_rfl) hB ⟨h11, trivial⟩ ?_
         refine ae_then ?_
         refine aw_true rfl ?_
         refine aw_seq ?_
         refine aw_reg [] [2] [] [I 5] [] [] (by kernel_rfl) hB trivial ?_
         refine ae_then ?_
         refine aw_ret ?_
         refine ae_ret_block (ae_ret_then ?_)
         refine ae_ret hB (I 5) (by kernel_rfl) (.inl (by refine congrArg I ?_; unfold gestI endsI caretB; simp_all [hle]; try omega)) rfl (fun _ => trivial)
        ·refine aw_reg [(1, .dec false)] [83] [] [Bv false] [] [¬ (900 ≤ (strI s))] (by kernel_rfl) hB ⟨h11, trivial⟩ ?_
         refine ae_then ?_
         refine aw_false rfl ?_
         refine aw_skip ?_
         refine ae_block 0 ?_
         refine ae_then ?_
         refine aw_seq ?_
         refine aw_reg [] [2] [] [I 0] [] [] (by kernel_rfl) hB trivial ?_
         refine ae_then ?_
         refine aw_ret ?_
         refine ae_ret hB (I 0) (by kernel_rfl) (.inl (by refine congrArg I ?_; unfold gestI endsI caretB; simp_all [hle]; try omega)) rfl (fun _ => trivial)
      ·refine aw_reg [(1, .dec false)] [7, 56] [] [I (strI s), Bv false] [] [¬ (((revS s.Points s.Points.length).1) = 0)] (by kernel_rfl) hB ⟨h5, trivial⟩ ?_
       refine ae_then ?_
       refine aw_false rfl ?_
       refine aw_seq ?_
       by_cases h12 : 900 ≤ (strI s)
       ·refine aw_reg [(1, .dec true)] [83] [] [Bv true] [] [900 ≤ (strI s)] (by kernel_rfl) hB ⟨h12, trivial⟩ ?_
        refine ae_then ?_
        refine aw_true rfl ?_
        refine aw_seq ?_
        refine aw_reg [] [2] [] [I 5] [] [] (by kernel_rfl) hB trivial ?_
        refine ae_then ?_
        refine aw_ret ?_
        refine ae_ret_block (ae_ret_then ?_)
        refine ae_ret hB (I 5) (by kernel_rfl) (.inl (by refine congrArg I ?_; unfold gestI endsI caretB; simp_all [hle]; try omega)) rfl (fun _ => trivial)
       ·refine aw_reg [(1, .dec false)] [83] [] [Bv false] [] [¬ (900 ≤ (strI s))] (by kernel_rfl) hB ⟨h12, trivial⟩ ?_
        refine ae_then ?_
        refine aw_false rfl ?_
        refine aw_skip ?_
        refine ae_block 0 ?_
        refine ae_then ?_
        refine aw_seq ?_
        refine aw_reg [] [2] [] [I 0] [] [] (by kernel_rfl) hB trivial ?_
        refine ae_then ?_
        refine aw_ret ?_
        refine ae_ret hB (I 0) (by kernel_rfl) (.inl (by refine congrArg I ?_; unfold gestI endsI caretB; simp_all [hle]; try omega)) rfl (fun _ => trivial)
    ·refine aw_reg [(1, .call [(true, I (bendT s))] true (I ((bendT s).natAbs : Int))), (2, .dec false)] [4, 7, 9, 10, 11, 12, 44] [9, 10, 11] [I ((revS s.Points s.Points.length).1), I (strI s), .ref 9 0, .ref 10 0, .ref 11 0, I (((boxS s.Points s.Points.length).Y2) - ((boxS s.Points s.Points.length).Y1)), Bv false] [some (bxPoint (at_ s.Points 0)), some (bxPoint (at_ s.Points (s.Points.length - 1))), some (bxBox (boxS s.Points s.Points.length))] [Con Tryd.prog 95 [I (bendT s)] true (I ((bendT s).natAbs : Int)) ∧ ((I (bendT s) : AV) = I (bendT s)) ∧ True, ¬ (6 ≤ ((bendT s).natAbs : Int))] (by kernel_rfl) hB ⟨⟨(abs_ok (bendT s) (by omega)), rfl, trivial⟩, h3, trivial⟩ ?_
     refine ae_then ?_
     refine aw_false rfl ?_
     refine aw_seq ?_
     by_cases h13 : ((revS s.Points s.Points.length).1) = 0
     ·by_cases h14 : 0 < (((boxS s.Points s.Points.length).Y2) - ((boxS s.Points s.Points.length).Y1))
      ·by_cases h15 : (((boxS s.Points s.Points.length).Y2) - ((boxS s.Points s.Points.length).Y1)) ≤ (2 * (((at_ s.Points 0).Y) - ((boxS s.Points s.Points.length).Y1)))
       ·by_cases h16 : (((boxS s.Points s.Points.length).Y2) - ((boxS s.Points s.Points.length).Y1)) ≤ (2 * (((at_ s.Points (s.Points.length - 1)).Y) - ((boxS s.Points s.Points.length).Y1)))
        ·refine aw_reg [(1, .dec true), (4, .dec true), (14, .dec true), (24, .dec true)] [7, 56] [] [I (strI s), Bv true] [] [((revS s.Points s.Points.length).1) = 0, 0 < (((boxS s.Points s.Points.length).Y2) - ((boxS s.Points s.Points.length).Y1)), inR .i64 (((at_ s.Points 0).Y) - ((boxS s.Points s.Points.length).Y1)), inR .i64 (2 * (((at_ s.Points 0).Y) - ((boxS s.Points s.Points.length).Y1))), (((boxS s.Points s.Points.length).Y2) - ((boxS s.Points s.Points.length).Y1)) ≤ (2 * (((at_ s.Points 0).Y) - ((boxS s.Points s.Points.length).Y1))), inR .i64 (((at_ s.Points (s.Points.length - 1)).Y) - ((boxS s.Points s.Points.length).Y1)), inR .i64 (2 * (((at_ s.Points (s.Points.length - 1)).Y) - ((boxS s.Points s.Points.length).Y1))), (((boxS s.Points s.Points.length).Y2) - ((boxS s.Points s.Points.length).Y1)) ≤ (2 * (((at_ s.Points (s.Points.length - 1)).Y) - ((boxS s.Points s.Points.length).Y1)))] (by kernel_rfl) hB ⟨h13, h14, (inR_i64 (by omega) (by omega)), (inR_i64 (by omega) (by omega)), h15, (inR_i64 (by omega) (by omega)), (inR_i64 (by omega) (by omega)), h16, trivial⟩ ?_
         refine ae_then ?_
         refine aw_true rfl ?_
         refine aw_seq ?_
         refine aw_reg [] [2] [] [I 4] [] [] (by kernel_rfl) hB trivial ?_
         refine ae_then ?_
         refine aw_ret ?_
         refine ae_ret_block (ae_ret_then ?_)
         refine ae_ret hB (I 4) (by kernel_rfl) (.inl (by refine congrArg I ?_; unfold gestI endsI caretB; simp_all [hle]; try omega)) rfl (fun _ => trivial)
        ·refine aw_reg [(1, .dec true), (4, .dec true), (14, .dec true), (24, .dec false)] [7, 56] [] [I (strI s), Bv false] [] [((revS s.Points s.Points.length).1) = 0, 0 < (((boxS s.Points s.Points.length).Y2) - ((boxS s.Points s.Points.length).Y1)), inR .i64 (((at_ s.Points 0).Y) - ((boxS s.Points s.Points.length).Y1)), inR .i64 (2 * (((at_ s.Points 0).Y) - ((boxS s.Points s.Points.length).Y1))), (((boxS s.Points s.Points.length).Y2) - ((boxS s.Points s.Points.length).Y1)) ≤ (2 * (((at_ s.Points 0).Y) - ((boxS s.Points s.Points.length).Y1))), inR .i64 (((at_ s.Points (s.Points.length - 1)).Y) - ((boxS s.Points s.Points.length).Y1)), inR .i64 (2 * (((at_ s.Points (s.Points.length - 1)).Y) - ((boxS s.Points s.Points.length).Y1))), ¬ ((((boxS s.Points s.Points.length).Y2) - ((boxS s.Points s.Points.length).Y1)) ≤ (2 * (((at_ s.Points (s.Points.length - 1)).Y) - ((boxS s.Points s.Points.length).Y1))))] (by kernel_rfl) hB ⟨h13, h14, (inR_i64 (by omega) (by omega)), (inR_i64 (by omega) (by omega)), h15, (inR_i64 (by omega) (by omega)), (inR_i64 (by omega) (by omega)), h16, trivial⟩ ?_
         refine ae_then ?_
         refine aw_false rfl ?_
         refine aw_seq ?_
         by_cases h17 : 900 ≤ (strI s)
         ·refine aw_reg [(1, .dec true)] [83] [] [Bv true] [] [900 ≤ (strI s)] (by kernel_rfl) hB ⟨h17, trivial⟩ ?_
          refine ae_then ?_
          refine aw_true rfl ?_
          refine aw_seq ?_
          refine aw_reg [] [2] [] [I 5] [] [] (by kernel_rfl) hB trivial ?_
          refine ae_then ?_
          refine aw_ret ?_
          refine ae_ret_block (ae_ret_then ?_)
          refine ae_ret hB (I 5) (by kernel_rfl) (.inl (by refine congrArg I ?_; unfold gestI endsI caretB; simp_all [hle]; try omega)) rfl (fun _ => trivial)
         ·refine aw_reg [(1, .dec false)] [83] [] [Bv false] [] [¬ (900 ≤ (strI s))] (by kernel_rfl) hB ⟨h17, trivial⟩ ?_
          refine ae_then ?_
          refine aw_false rfl ?_
          refine aw_skip ?_
          refine ae_block 0 ?_
          refine ae_then ?_
          refine aw_seq ?_
          refine aw_reg [] [2] [] [I 0] [] [] (by kernel_rfl) hB trivial ?_
          refine ae_then ?_
          refine aw_ret ?_
          refine ae_ret hB (I 0) (by kernel_rfl) (.inl (by refine congrArg I ?_; unfold gestI endsI caretB; simp_all [hle]; try omega)) rfl (fun _ => trivial)
       ·refine aw_reg [(1, .dec true), (4, .dec true), (14, .dec false)] [7, 56] [] [I (strI s), Bv false] [] [((revS s.Points s.Points.length).1) = 0, 0 < (((boxS s.Points s.Points.length).Y2) - ((boxS s.Points s.Points.length).Y1)), inR .i64 (((at_ s.Points 0).Y) - ((boxS s.Points s.Points.length).Y1)), inR .i64 (2 * (((at_ s.Points 0).Y) - ((boxS s.Points s.Points.length).Y1))), ¬ ((((boxS s.Points s.Points.length).Y2) - ((boxS s.Points s.Points.length).Y1)) ≤ (2 * (((at_ s.Points 0).Y) - ((boxS s.Points s.Points.length).Y1))))] (by kernel_rfl) hB ⟨h13, h14, (inR_i64 (by omega) (by omega)), (inR_i64 (by omega) (by omega)), h15, trivial⟩ ?_
        refine ae_then ?_
        refine aw_false rfl ?_
        refine aw_seq ?_
        by_cases h18 : 900 ≤ (strI s)
        ·refine aw_reg [(1, .dec true)] [83] [] [Bv true] [] [900 ≤ (strI s)] (by kernel_rfl) hB ⟨h18, trivial⟩ ?_
         refine ae_then ?_
         refine aw_true rfl ?_
         refine aw_seq ?_
         refine aw_reg [] [2] [] [I 5] [] [] (by kernel_rfl) hB trivial ?_
         refine ae_then ?_
         refine aw_ret ?_
         refine ae_ret_block (ae_ret_then ?_)
         refine ae_ret hB (I 5) (by kernel_rfl) (.inl (by refine congrArg I ?_; unfold gestI endsI caretB; simp_all [hle]; try omega)) rfl (fun _ => trivial)
        ·refine aw_reg [(1, .dec false)] [83] [] [Bv false] [] [¬ (900 ≤ (strI s))] (by kernel_rfl) hB ⟨h18, trivial⟩ ?_
         refine ae_then ?_
         refine aw_false rfl ?_
         refine aw_skip ?_
         refine ae_block 0 ?_
         refine ae_then ?_
         refine aw_seq ?_
         refine aw_reg [] [2] [] [I 0] [] [] (by kernel_rfl) hB trivial ?_
         refine ae_then ?_
         refine aw_ret ?_
         refine ae_ret hB (I 0) (by kernel_rfl) (.inl (by refine congrArg I ?_; unfold gestI endsI caretB; simp_all [hle]; try omega)) rfl (fun _ => trivial)
      ·refine aw_reg [(1, .dec true), (4, .dec false)] [7, 56] [] [I (strI s), Bv false] [] [((revS s.Points s.Points.length).1) = 0, ¬ (0 < (((boxS s.Points s.Points.length).Y2) - ((boxS s.Points s.Points.length).Y1)))] (by kernel_rfl) hB ⟨h13, h14, trivial⟩ ?_
       refine ae_then ?_
       refine aw_false rfl ?_
       refine aw_seq ?_
       by_cases h19 : 900 ≤ (strI s)
       ·refine aw_reg [(1, .dec true)] [83] [] [Bv true] [] [900 ≤ (strI s)] (by kernel_rfl) hB ⟨h19, trivial⟩ ?_
        refine ae_then ?_
        refine aw_true rfl ?_
        refine aw_seq ?_
        refine aw_reg [] [2] [] [I 5] [] [] (by kernel_rfl) hB trivial ?_
        refine ae_then ?_
        refine aw_ret ?_
        refine ae_ret_block (ae_ret_then ?_)
        refine ae_ret hB (I 5) (by kernel_rfl) (.inl (by refine congrArg I ?_; unfold gestI endsI caretB; simp_all [hle]; try omega)) rfl (fun _ => trivial)
       ·refine aw_reg [(1, .dec false)] [83] [] [Bv false] [] [¬ (900 ≤ (strI s))] (by kernel_rfl) hB ⟨h19, trivial⟩ ?_
        refine ae_then ?_
        refine aw_false rfl ?_
        refine aw_skip ?_
        refine ae_block 0 ?_
        refine ae_then ?_
        refine aw_seq ?_
        refine aw_reg [] [2] [] [I 0] [] [] (by kernel_rfl) hB trivial ?_
        refine ae_then ?_
        refine aw_ret ?_
        refine ae_ret hB (I 0) (by kernel_rfl) (.inl (by refine congrArg I ?_; unfold gestI endsI caretB; simp_all [hle]; try omega)) rfl (fun _ => trivial)
     ·refine aw_reg [(1, .dec false)] [7, 56] [] [I (strI s), Bv false] [] [¬ (((revS s.Points s.Points.length).1) = 0)] (by kernel_rfl) hB ⟨h13, trivial⟩ ?_
      refine ae_then ?_
      refine aw_false rfl ?_
      refine aw_seq ?_
      by_cases h20 : 900 ≤ (strI s)
      ·refine aw_reg [(1, .dec true)] [83] [] [Bv true] [] [900 ≤ (strI s)] (by kernel_rfl) hB ⟨h20, trivial⟩ ?_
       refine ae_then ?_
       refine aw_true rfl ?_
       refine aw_seq ?_
       refine aw_reg [] [2] [] [I 5] [] [] (by kernel_rfl) hB trivial ?_
       refine ae_then ?_
       refine aw_ret ?_
       refine ae_ret_block (ae_ret_then ?_)
       refine ae_ret hB (I 5) (by kernel_rfl) (.inl (by refine congrArg I ?_; unfold gestI endsI caretB; simp_all [hle]; try omega)) rfl (fun _ => trivial)
      ·refine aw_reg [(1, .dec false)] [83] [] [Bv false] [] [¬ (900 ≤ (strI s))] (by kernel_rfl) hB ⟨h20, trivial⟩ ?_
       refine ae_then ?_
       refine aw_false rfl ?_
       refine aw_skip ?_
       refine ae_block 0 ?_
       refine ae_then ?_
       refine aw_seq ?_
       refine aw_reg [] [2] [] [I 0] [] [] (by kernel_rfl) hB trivial ?_
       refine ae_then ?_
       refine aw_ret ?_
       refine ae_ret hB (I 0) (by kernel_rfl) (.inl (by refine congrArg I ?_; unfold gestI endsI caretB; simp_all [hle]; try omega)) rfl (fun _ => trivial)


theorem ba_ext (s : ByteArray) (a b : Nat) : (s.extract a b).size = min b s.size - a := by simp [ByteArray.size_extract]
theorem ba_nil : (⟨#[]⟩ : ByteArray).size = 0 := rfl
/-- The code of an edit of a line. -/
def chkI (l : CellRow) (e : Edit) (ins : ByteArray) : Int :=
  if okRow l = true ∧ lettersB ins = true ∧ inB e.Kind 1 3 = true then
    (if (0 ≤ e.From ∧ e.From ≤ e.To) ∧ e.To ≤ (l.Text.size : Int) ∧ (e.Kind = 3 → e.From = e.To) then
      (if e.Kind ≠ 1 ∧ 60 < (l.Text.size : Int) + (ins.size : Int) - (e.To - e.From) then 5 else 0) else 2) else 1
section
variable {l : CellRow} {e : Edit} {ins : ByteArray}
theorem chk_1 (h : ¬ (okRow l = true ∧ lettersB ins = true ∧ inB e.Kind 1 3 = true)) : chkI l e ins = 1 := by rw [chkI, if_neg h]
theorem chk_2 (h1 : okRow l = true) (h2 : lettersB ins = true) (h3 : inB e.Kind 1 3 = true) (h : ¬ ((0 ≤ e.From ∧ e.From ≤ e.To) ∧ e.To ≤ (l.Text.size : Int) ∧ (e.Kind = 3 → e.From = e.To))) : chkI l e ins = 2 := by rw [chkI, if_pos ⟨h1, h2, h3⟩, if_neg h]
theorem chk_5 (h1 : okRow l = true) (h2 : lettersB ins = true) (h3 : inB e.Kind 1 3 = true) (h : (0 ≤ e.From ∧ e.From ≤ e.To) ∧ e.To ≤ (l.Text.size : Int) ∧ (e.Kind = 3 → e.From = e.To)) (h4 : e.Kind ≠ 1 ∧ 60 < (l.Text.size : Int) + (ins.size : Int) - (e.To - e.From)) : chkI l e ins = 5 := by rw [chkI, if_pos ⟨h1, h2, h3⟩, if_pos h, if_pos h4]
theorem chk_0 (h1 : okRow l = true) (h2 : lettersB ins = true) (h3 : inB e.Kind 1 3 = true) (h : (0 ≤ e.From ∧ e.From ≤ e.To) ∧ e.To ≤ (l.Text.size : Int) ∧ (e.Kind = 3 → e.From = e.To)) (h4 : ¬ (e.Kind ≠ 1 ∧ 60 < (l.Text.size : Int) + (ins.size : Int) - (e.To - e.From))) : chkI l e ins = 0 := by rw [chkI, if_pos ⟨h1, h2, h3⟩, if_pos h, if_neg h4]
theorem chk_ok (h : chkI l e ins = 0) : okRow l = true ∧ lettersB ins = true ∧ (1 ≤ e.Kind ∧ e.Kind ≤ 3) ∧ (0 ≤ e.From ∧ e.From ≤ e.To) ∧ e.To ≤ (l.Text.size : Int) ∧ (e.Kind = 3 → e.From = e.To) ∧ (e.Kind = 1 ∨ (l.Text.size : Int) + (ins.size : Int) - (e.To - e.From) ≤ 60) := by
  unfold chkI at h
  split at h
  · rename_i h1
    split at h
    · rename_i h2
      split at h
      · cases h
      · rename_i h3
        exact ⟨h1.1, h1.2.1, inB_iff.1 h1.2.2, h2.1, h2.2.1, h2.2.2, by omega⟩
    · cases h
  · cases h
def applyT (l : CellRow) (e : Edit) (ins : ByteArray) : ByteArray := l.Text.extract 0 e.From.toNat ++ (if e.Kind = 1 then ⟨#[]⟩ else ins) ++ l.Text.extract e.To.toNat l.Text.size
/-- A line after an edit. -/
def applyL (l : CellRow) (e : Edit) (ins : ByteArray) : CellRow := ⟨applyT l e ins, l.X, l.Y, l.Cell⟩
def applyRow (l : CellRow) (e : Edit) (ins : ByteArray) : CellRow := if chkI l e ins = 0 then applyL l e ins else ⟨⟨#[]⟩, 0, 0, 0⟩
theorem applyRow_eq (h : chkI l e ins = 0) : applyRow l e ins = applyL l e ins := if_pos h
theorem applyRow_ne {k : Int} (h : chkI l e ins = k) (hk : k ≠ 0) : applyRow l e ins = ⟨⟨#[]⟩, 0, 0, 0⟩ := if_neg (by rw [h]; exact hk)
def invE (l : CellRow) (e : Edit) (ins : ByteArray) : Edit := if chkI l e ins = 0 then (if e.Kind = 1 then ⟨3, e.From, e.From⟩ else if e.Kind = 3 then ⟨1, e.From, e.From + (ins.size : Int)⟩ else ⟨2, e.From, e.From + (ins.size : Int)⟩) else ⟨0, 0, 0⟩
def invT (l : CellRow) (e : Edit) (ins : ByteArray) : ByteArray := if chkI l e ins = 0 then (if e.Kind = 3 then ⟨#[]⟩ else l.Text.extract e.From.toNat e.To.toNat) else ⟨#[]⟩
end

theorem mul60 {a c : Int} (h1 : 0 ≤ a ∧ a ≤ 60) (h2 : 0 ≤ c ∧ c ≤ 60) : 0 ≤ a * c ∧ a * c ≤ 3600 :=
  ⟨Int.mul_nonneg h1.1 h2.1, Int.le_trans (Int.mul_le_mul h1.2 h2.2 h2.1 (by omega)) (by decide)⟩
theorem mid_eq (k c : Int) : (2 * k + 1) * c = 2 * (k * c) + c := by rw [Int.add_mul, Int.one_mul, Int.mul_assoc]
def spanS (l : CellRow) (b : Box) : Nat → Int × Int
  | 0 => (0, 0)
  | k + 1 => if inB (2 * l.X + (2 * (k : Int) + 1) * l.Cell) (2 * b.X1) (2 * b.X2) = true then (if (spanS l b k).2 = 0 then (k : Int) else (spanS l b k).1, (k : Int) + 1) else spanS l b k
theorem spanS_yes {l : CellRow} {b : Box} {k : Int} (h0 : 0 ≤ k) (h : inB (2 * l.X + (2 * k + 1) * l.Cell) (2 * b.X1) (2 * b.X2) = true) : spanS l b (k + 1).toNat = (if (spanS l b k.toNat).2 = 0 then k else (spanS l b k.toNat).1, k + 1) := by
  have e : (k + 1).toNat = k.toNat + 1 := by omega
  have e2 : ((k.toNat : Nat) : Int) = k := by omega
  rw [e, spanS, e2, if_pos h]
theorem spanS_no {l : CellRow} {b : Box} {k : Int} (h0 : 0 ≤ k) (h : inB (2 * l.X + (2 * k + 1) * l.Cell) (2 * b.X1) (2 * b.X2) = false) : spanS l b (k + 1).toNat = spanS l b k.toNat := by
  have e : (k + 1).toNat = k.toNat + 1 := by omega
  have e2 : ((k.toNat : Nat) : Int) = k := by omega
  rw [e, spanS, e2, if_neg (by rw [h]; decide)]
theorem spanS_bd (l : CellRow) (b : Box) : ∀ k : Nat, ((spanS l b k).1 = 0 ∧ (spanS l b k).2 = 0) ∨ (0 ≤ (spanS l b k).1 ∧ (spanS l b k).1 < (spanS l b k).2 ∧ (spanS l b k).2 ≤ (k : Int))
  | 0 => .inl ⟨rfl, rfl⟩
  | k + 1 => by
    have := spanS_bd l b k
    unfold spanS
    split
    · simp only; split <;> omega
    · omega
def placeS (l : CellRow) (x : Int) : Nat → Int
  | 0 => 0
  | k + 1 => if ((x - l.X - ((k : Int) + 1) * l.Cell).natAbs : Int) < ((x - l.X - placeS l x k * l.Cell).natAbs : Int) then (k : Int) + 1 else placeS l x k
theorem placeS_succ {l : CellRow} {x k : Int} (h : 1 ≤ k) : placeS l x (k + 1 - 1).toNat = if ((x - l.X - k * l.Cell).natAbs : Int) < ((x - l.X - placeS l x (k - 1).toNat * l.Cell).natAbs : Int) then k else placeS l x (k - 1).toNat := by
  have e : (k + 1 - 1).toNat = (k - 1).toNat + 1 := by omega
  have e2 : (((k - 1).toNat : Nat) : Int) + 1 = k := by omega
  rw [e, placeS, e2]
def tipS (xs : List Point) : Nat → Nat
  | 0 => 0
  | k + 1 => if (at_ xs k).Y < (at_ xs (tipS xs k)).Y then k else tipS xs k
theorem tip_1 {xs : List Point} {i b : Int} (h : 0 ≤ i) (hb : b = (tipS xs i.toNat : Int)) : ((tipS xs (i + 1).toNat : Nat) : Int) = if (at_ xs i.toNat).Y < (at_ xs b.toNat).Y then i else b := by
  have e : (i + 1).toNat = i.toNat + 1 := by omega
  have e2 : b.toNat = tipS xs i.toNat := by omega
  rw [e, tipS, e2]; split <;> omega
theorem tip_at {xs : List Point} {i : Int} (h : 0 ≤ i) : at_ xs (tipS xs (i + 1).toNat) = if (at_ xs i.toNat).Y < (at_ xs (tipS xs i.toNat)).Y then at_ xs i.toNat else at_ xs (tipS xs i.toNat) := by
  have e : (i + 1).toNat = i.toNat + 1 := by omega
  rw [e, tipS]; split <;> rfl
theorem tip_one (xs : List Point) : tipS xs 1 = 0 := by simp [tipS]
def kindI (s : Stroke) : Int := if gestI s = 2 then 1 else if gestI s = 3 then 2 else if gestI s = 4 then 3 else 0
/-- The edit that a stroke means, and a code. -/
def editR (l : CellRow) (s : Stroke) : Edit × Int :=
  if kindI s = 0 then (⟨0, 0, 0⟩, 6) else
  if (boxS s.Points s.Points.length).Y2 < l.Y ∨ l.Y + 2 * l.Cell < (boxS s.Points s.Points.length).Y1 then (⟨0, 0, 0⟩, 3) else
  if kindI s = 3 then (⟨3, placeS l (at_ s.Points (tipS s.Points s.Points.length)).X l.Text.size, placeS l (at_ s.Points (tipS s.Points s.Points.length)).X l.Text.size⟩, 0) else
  if (spanS l (boxS s.Points s.Points.length) l.Text.size).2 = 0 then (⟨0, 0, 0⟩, 3) else
  (⟨kindI s, (spanS l (boxS s.Points s.Points.length) l.Text.size).1, (spanS l (boxS s.Points s.Points.length) l.Text.size).2⟩, 0)
def editOfR (l : CellRow) (s : Stroke) : Edit × Int := if okRow l = true ∧ okStroke' s = true then editR l s else (⟨0, 0, 0⟩, 1)
theorem editOf_eq {l : CellRow} {s : Stroke} (h1 : okRow l = true) (h2 : okStroke' s = true) : editOfR l s = editR l s := if_pos ⟨h1, h2⟩

theorem tip_lt' (xs : List Point) : ∀ k : Nat, tipS xs k < max 1 k
  | 0 => by simp [tipS]
  | k + 1 => by
    have := tip_lt' xs k
    unfold tipS; split <;> omega
theorem tip_lt {xs : List Point} (h : 0 < xs.length) : tipS xs xs.length < xs.length := by
  have := tip_lt' xs xs.length
  omega

-- impl.insertPlace
theorem insertPlace_ok (l : CellRow) (s : Stroke) (hr0 : okRow l = true) (ok : okStroke' s = true) : Con Tryd.prog 63 [agCellRow l, .agg [slPoint false s.Points]] true (I (placeS l (at_ s.Points (tipS s.Points s.Points.length)).X l.Text.size)) := by
  have hr := okRow_iff.1 hr0
  have hln := okS_len ok
  refine fn_ok (fn := Tryd.f63) (nt := 58) Tryd.func63 rfl rfl rfl rfl (by simp [taggedL, tagged, tagPoint]) fun B hB => ?_
  refine aw_lens (x := .agg [slPoint false s.Points]) 1 rfl (fun len_s => ?_)
  simp [LenOK, LenL, cPoint, fPoint, slPoint] at len_s
  refine aw_seq ?_
  refine aw_reg [(0, .new 2), (1, .new 3)] [2, 3] [2, 3] [.ref 2 0, .ref 3 0] [some (bxCellRow l), some (.box [slPoint false s.Points])] [] (by kernel_rfl) hB trivial ?_
  refine ae_then ?_
  refine aw_seq ?_
  refine aw_reg [(1, .call [(true, .agg [slPoint false s.Points])] true (agPoint (at_ s.Points 0))), (2, .new 5)] [2, 3, 5] [2, 3, 5] [.ref 2 0, .ref 3 0, .ref 5 0] [some (bxCellRow l), some (.box [slPoint false s.Points]), some (bxPoint (at_ s.Points 0))] [Con Tryd.prog 93 [.agg [slPoint false s.Points]] true (agPoint (at_ s.Points 0)) ∧ ((.agg [slPoint false s.Points] : AV) = .agg [slPoint false s.Points]) ∧ True] (by kernel_rfl) hB ⟨⟨(firstOf_ok s ok), rfl, trivial⟩, trivial⟩ ?_
  refine ae_then ?_
  refine aw_seq ?_
  refine aw_seq ?_
  refine aw_reg [] [2, 5, 13, 14, 15] [2, 5] [.ref 2 0, .ref 5 0, slPoint false s.Points, I (s.Points.length : Int), I 0] [some (bxCellRow l), some (bxPoint (at_ s.Points 0))] [] (by kernel_rfl) hB trivial ?_
  refine ae_then ?_
  refine aw_block ?_
  refine aw_weak hB [] (T := [(2, .ref 2 0), (5, .ref 5 0), (13, slPoint false s.Points), (14, I (s.Points.length : Int)), (15, I 0)]) (O := [(2, bxCellRow l), (5, .box [I ((at_ s.Points 0).X), I ((at_ s.Points 0).Y), I ((at_ s.Points 0).T)])]) rfl (⟨.inl rfl, .inl rfl, .inl rfl, .inl rfl, .inl rfl, trivial⟩) (⟨.inl rfl, .inr ⟨rfl, ⟨rfl, ⟨rfl, rfl⟩⟩⟩, trivial⟩) ?_
  refine aw_loop (fun gn gσ => ∃ (t15 : Int) (px : Int) (py : Int) (pt : Int), gn = ((s.Points.length : Int) - t15).toNat ∧ (0 ≤ t15 ∧ t15 ≤ (s.Points.length : Int)) ∧ (Point.mk px py pt = at_ s.Points (tipS s.Points t15.toNat)) ∧ gσ = mkS [(2, .ref 2 0), (5, .ref 5 0), (13, slPoint false s.Points), (14, I (s.Points.length : Int)), (15, I t15)] [(2, bxCellRow l), (5, .box [I px, I py, I pt])]) (((s.Points.length : Int) - 0).toNat) ⟨0, (at_ s.Points 0).X, (at_ s.Points 0).Y, (at_ s.Points 0).T, rfl, (by omega), (by rfl), rfl⟩ (fun gn gσ hI => ?_)
  obtain ⟨t15, px, py, pt, rfl, hi0, hb1, rfl⟩ := hI
  refine aw_seq ?_
  by_cases h1 : t15 < (s.Points.length : Int)
  ·have hi : t15.toNat < s.Points.length := by omega
   refine aw_reg [(0, .dec true)] [2, 5, 13, 14, 15, 16] [2, 5] [.ref 2 0, .ref 5 0, slPoint false s.Points, I (s.Points.length : Int), I t15, Bv true] [some (bxCellRow l), some (.box [I px, I py, I pt])] [t15 < (s.Points.length : Int)] (by kernel_rfl) hB ⟨h1, trivial⟩ ?_
   refine ae_then ?_
   refine aw_seq ?_
   refine aw_true rfl ?_
   refine aw_skip ?_
   refine ae_then ?_
   refine aw_seq ?_
   refine aw_block ?_
   refine aw_seq ?_
   refine aw_reg [(2, .new 7)] [2, 5, 7, 13, 14, 15] [2, 5, 7] [.ref 2 0, .ref 5 0, .ref 7 0, slPoint false s.Points, I (s.Points.length : Int), I t15] [some (bxCellRow l), some (.box [I px, I py, I pt]), some (bxPoint (at_ s.Points t15.toNat))] [(0 : Int) ≤ t15 ∧ t15 < (s.Points.length : Int)] (by kernel_rfl) hB ⟨⟨(by omega), (by omega)⟩, trivial⟩ ?_
   refine ae_then ?_
   refine aw_seq ?_
   by_cases h2 : ((at_ s.Points t15.toNat).Y) < py
   ·refine aw_reg [(4, .dec true)] [2, 5, 7, 13, 14, 15, 23] [2, 5, 7] [.ref 2 0, .ref 5 0, .ref 7 0, slPoint false s.Points, I (s.Points.length : Int), I t15, Bv true] [some (bxCellRow l), some (.box [I px, I py, I pt]), some (bxPoint (at_ s.Points t15.toNat))] [((at_ s.Points t15.toNat).Y) < py] (by kernel_rfl) hB ⟨h2, trivial⟩ ?_
    refine ae_then ?_
    refine aw_true rfl ?_
    refine aw_reg [] [2, 5, 13, 14, 15] [2, 5] [.ref 2 0, .ref 5 0, slPoint false s.Points, I (s.Points.length : Int), I t15] [some (bxCellRow l), some (bxPoint (at_ s.Points t15.toNat))] [] (by kernel_rfl) hB trivial ?_
    refine ae_block 1 ?_
    refine ae_then ?_
    refine aw_reg [] [2, 5, 13, 14, 15] [2, 5] [.ref 2 0, .ref 5 0, slPoint false s.Points, I (s.Points.length : Int), I (t15 + 1)] [some (bxCellRow l), some (bxPoint (at_ s.Points t15.toNat))] [inR .i64 (t15 + 1)] (by kernel_rfl) hB ⟨(inR_i64 (by omega) (by omega)), trivial⟩ ?_
    refine ae_weak hB [] (T := [(2, .ref 2 0), (5, .ref 5 0), (13, slPoint false s.Points), (14, I (s.Points.length : Int)), (15, I (t15 + 1))]) (O := [(2, bxCellRow l), (5, .box [I ((at_ s.Points t15.toNat).X), I ((at_ s.Points t15.toNat).Y), I ((at_ s.Points t15.toNat).T)])]) rfl (⟨.inl rfl, .inl rfl, .inl rfl, .inl rfl, .inl rfl, trivial⟩) (⟨.inl rfl, .inr ⟨rfl, ⟨rfl, ⟨rfl, rfl⟩⟩⟩, trivial⟩) (ae_again _ (by omega) ⟨(t15 + 1), (at_ s.Points t15.toNat).X, (at_ s.Points t15.toNat).Y, (at_ s.Points t15.toNat).T, rfl, (by omega), (by rw [tip_at hi0.1, ← hb1]; show _ = if (at_ s.Points t15.toNat).Y < py then _ else _; first | (rw [if_pos (by assumption)]; done) | (rw [if_neg (by assumption)]; done)), rfl⟩)
   ·refine aw_reg [(4, .dec false)] [2, 5, 7, 13, 14, 15, 23] [2, 5, 7] [.ref 2 0, .ref 5 0, .ref 7 0, slPoint false s.Points, I (s.Points.length : Int), I t15, Bv false] [some (bxCellRow l), some (.box [I px, I py, I pt]), some (bxPoint (at_ s.Points t15.toNat))] [¬ (((at_ s.Points t15.toNat).Y) < py)] (by kernel_rfl) hB ⟨h2, trivial⟩ ?_
    refine ae_then ?_
    refine aw_false rfl ?_
    refine aw_skip ?_
    refine ae_block 1 ?_
    refine ae_then ?_
    refine aw_reg [] [2, 5, 13, 14, 15] [2, 5] [.ref 2 0, .ref 5 0, slPoint false s.Points, I (s.Points.length : Int), I (t15 + 1)] [some (bxCellRow l), some (.box [I px, I py, I pt])] [inR .i64 (t15 + 1)] (by kernel_rfl) hB ⟨(inR_i64 (by omega) (by omega)), trivial⟩ ?_
    exact ae_again _ (by omega) ⟨(t15 + 1), px, py, pt, rfl, (by omega), (by rw [tip_at hi0.1, ← hb1]; show _ = if (at_ s.Points t15.toNat).Y < py then _ else _; first | (rw [if_pos (by assumption)]; done) | (rw [if_neg (by assumption)]; done)), rfl⟩
  ·have hie : t15.toNat = s.Points.length := by omega
   rw [hie] at hb1
   have hpx : px = (at_ s.Points (tipS s.Points s.Points.length)).X := congrArg Point.X hb1
   have hpd := okP_iff.1 (okS_at ok (j := tipS s.Points s.Points.length) (tip_lt (by omega)))
   rw [← hpx] at hpd
   refine aw_reg [(0, .dec false)] [2, 5, 13, 14, 15, 16] [2, 5] [.ref 2 0, .ref 5 0, slPoint false s.Points, I (s.Points.length : Int), I t15, Bv false] [some (bxCellRow l), some (.box [I px, I py, I pt])] [¬ (t15 < (s.Points.length : Int))] (by kernel_rfl) hB ⟨h1, trivial⟩ ?_
   refine ae_then ?_
   refine aw_seq ?_
   refine aw_false rfl ?_
   refine aw_exit ?_
   refine ae_exit_then ?_
   refine ae_exit_then ?_
   refine ae_exit_same ?_
   refine ae_then ?_
   refine aw_seq ?_
   refine aw_reg [] [2, 5, 8] [2, 5] [.ref 2 0, .ref 5 0, I 0] [some (bxCellRow l), some (.box [I px, I py, I pt])] [] (by kernel_rfl) hB trivial ?_
   refine ae_then ?_
   refine aw_seq ?_
   refine aw_seq ?_
   refine aw_reg [] [2, 5, 8, 9] [2, 5] [.ref 2 0, .ref 5 0, I 0, I 1] [some (bxCellRow l), some (.box [I px, I py, I pt])] [] (by kernel_rfl) hB trivial ?_
   refine ae_then ?_
   refine aw_block ?_
   refine aw_loop (fun gn gσ => ∃ (best : Int) (k : Int), gn = ((l.Text.size : Int) + 1 - k).toNat ∧ (1 ≤ k ∧ k ≤ (l.Text.size : Int) + 1) ∧ (best = placeS l px (k - 1).toNat) ∧ (0 ≤ best ∧ best ≤ k - 1) ∧ gσ = mkS [(2, .ref 2 0), (5, .ref 5 0), (8, I best), (9, I k)] [(2, bxCellRow l), (5, .box [I px, I py, I pt])]) (((l.Text.size : Int) + 1 - 1).toNat) ⟨0, 1, rfl, (by omega), (by rfl), (by omega), rfl⟩ (fun gn gσ hI => ?_)
   obtain ⟨best, k, rfl, hq0, hp1, hp2, rfl⟩ := hI
   refine aw_seq ?_
   refine aw_seq ?_
   by_cases h3 : k ≤ (l.Text.size : Int)
   ·have hkb := mul60 (a := k) (c := l.Cell) (by omega) (by omega)
    have hbb := mul60 (a := best) (c := l.Cell) (by omega) (by omega)
    refine aw_reg [(4, .dec true)] [2, 5, 8, 9, 30] [2, 5] [.ref 2 0, .ref 5 0, I best, I k, Bv true] [some (bxCellRow l), some (.box [I px, I py, I pt])] [k ≤ (l.Text.size : Int)] (by kernel_rfl) hB ⟨h3, trivial⟩ ?_
    refine ae_then ?_
    refine aw_true rfl ?_
    refine aw_skip ?_
    refine ae_then ?_
    refine aw_seq ?_
    refine aw_block ?_
    refine aw_seq ?_
    by_cases h4 : (((l.X + (k * l.Cell)) - px).natAbs : Int) < (((l.X + (best * l.Cell)) - px).natAbs : Int)
    ·refine aw_reg [(10, .call [(true, I ((l.X + (k * l.Cell)) - px))] true (I (((l.X + (k * l.Cell)) - px).natAbs : Int))), (21, .call [(true, I ((l.X + (best * l.Cell)) - px))] true (I (((l.X + (best * l.Cell)) - px).natAbs : Int))), (22, .dec true)] [2, 5, 8, 9, 55] [2, 5] [.ref 2 0, .ref 5 0, I best, I k, Bv true] [some (bxCellRow l), some (.box [I px, I py, I pt])] [inR .i64 (k * l.Cell), inR .i64 (l.X + (k * l.Cell)), inR .i64 ((l.X + (k * l.Cell)) - px), Con Tryd.prog 95 [I ((l.X + (k * l.Cell)) - px)] true (I (((l.X + (k * l.Cell)) - px).natAbs : Int)) ∧ ((I ((l.X + (k * l.Cell)) - px) : AV) = I ((l.X + (k * l.Cell)) - px)) ∧ True, inR .i64 (best * l.Cell), inR .i64 (l.X + (best * l.Cell)), inR .i64 ((l.X + (best * l.Cell)) - px), Con Tryd.prog 95 [I ((l.X + (best * l.Cell)) - px)] true (I (((l.X + (best * l.Cell)) - px).natAbs : Int)) ∧ ((I ((l.X + (best * l.Cell)) - px) : AV) = I ((l.X + (best * l.Cell)) - px)) ∧ True, (((l.X + (k * l.Cell)) - px).natAbs : Int) < (((l.X + (best * l.Cell)) - px).natAbs : Int)] (by kernel_rfl) hB ⟨(inR_i64 (by omega) (by omega)), (inR_i64 (by omega) (by omega)), (inR_i64 (by omega) (by omega)), ⟨(abs_ok ((l.X + (k * l.Cell)) - px) (by omega)), rfl, trivial⟩, (inR_i64 (by omega) (by omega)), (inR_i64 (by omega) (by omega)), (inR_i64 (by omega) (by omega)), ⟨(abs_ok ((l.X + (best * l.Cell)) - px) (by omega)), rfl, trivial⟩, h4, trivial⟩ ?_
     refine ae_then ?_
     refine aw_true rfl ?_
     refine aw_reg [] [2, 5, 8, 9] [2, 5] [.ref 2 0, .ref 5 0, I k, I k] [some (bxCellRow l), some (.box [I px, I py, I pt])] [] (by kernel_rfl) hB trivial ?_
     refine ae_block 3 ?_
     refine ae_then ?_
     refine aw_reg [] [2, 5, 8, 9] [2, 5] [.ref 2 0, .ref 5 0, I k, I (k + 1)] [some (bxCellRow l), some (.box [I px, I py, I pt])] [inR .i64 (k + 1)] (by kernel_rfl) hB ⟨(inR_i64 (by omega) (by omega)), trivial⟩ ?_
     exact ae_again _ (by omega) ⟨k, (k + 1), rfl, (by omega), (by rw [placeS_succ hq0.1, ← hp1]; first | rfl | (rw [if_pos (by omega)]; done) | (rw [if_neg (by omega)]; done)), (by omega), rfl⟩
    ·refine aw_reg [(10, .call [(true, I ((l.X + (k * l.Cell)) - px))] true (I (((l.X + (k * l.Cell)) - px).natAbs : Int))), (21, .call [(true, I ((l.X + (best * l.Cell)) - px))] true (I (((l.X + (best * l.Cell)) - px).natAbs : Int))), (22, .dec false)] [2, 5, 8, 9, 55] [2, 5] [.ref 2 0, .ref 5 0, I best, I k, Bv false] [some (bxCellRow l), some (.box [I px, I py, I pt])] [inR .i64 (k * l.Cell), inR .i64 (l.X + (k * l.Cell)), inR .i64 ((l.X + (k * l.Cell)) - px), Con Tryd.prog 95 [I ((l.X + (k * l.Cell)) - px)] true (I (((l.X + (k * l.Cell)) - px).natAbs : Int)) ∧ ((I ((l.X + (k * l.Cell)) - px) : AV) = I ((l.X + (k * l.Cell)) - px)) ∧ True, inR .i64 (best * l.Cell), inR .i64 (l.X + (best * l.Cell)), inR .i64 ((l.X + (best * l.Cell)) - px), Con Tryd.prog 95 [I ((l.X + (best * l.Cell)) - px)] true (I (((l.X + (best * l.Cell)) - px).natAbs : Int)) ∧ ((I ((l.X + (best * l.Cell)) - px) : AV) = I ((l.X + (best * l.Cell)) - px)) ∧ True, ¬ ((((l.X + (k * l.Cell)) - px).natAbs : Int) < (((l.X + (best * l.Cell)) - px).natAbs : Int))] (by kernel_rfl) hB ⟨(inR_i64 (by omega) (by omega)), (inR_i64 (by omega) (by omega)), (inR_i64 (by omega) (by omega)), ⟨(abs_ok ((l.X + (k * l.Cell)) - px) (by omega)), rfl, trivial⟩, (inR_i64 (by omega) (by omega)), (inR_i64 (by omega) (by omega)), (inR_i64 (by omega) (by omega)), ⟨(abs_ok ((l.X + (best * l.Cell)) - px) (by omega)), rfl, trivial⟩, h4, trivial⟩ ?_
     refine ae_then ?_
     refine aw_false rfl ?_
     refine aw_skip ?_
     refine ae_block 3 ?_
     refine ae_then ?_
     refine aw_reg [] [2, 5, 8, 9] [2, 5] [.ref 2 0, .ref 5 0, I best, I (k + 1)] [some (bxCellRow l), some (.box [I px, I py, I pt])] [inR .i64 (k + 1)] (by kernel_rfl) hB ⟨(inR_i64 (by omega) (by omega)), trivial⟩ ?_
     exact ae_again _ (by omega) ⟨best, (k + 1), rfl, (by omega), (by rw [placeS_succ hq0.1, ← hp1]; first | rfl | (rw [if_pos (by omega)]; done) | (rw [if_neg (by omega)]; done)), (by omega), rfl⟩
   ·have hie : (k - 1).toNat = l.Text.size := by omega
    rw [hie] at hp1
    refine aw_reg [(4, .dec false)] [2, 5, 8, 9, 30] [2, 5] [.ref 2 0, .ref 5 0, I best, I k, Bv false] [some (bxCellRow l), some (.box [I px, I py, I pt])] [¬ (k ≤ (l.Text.size : Int))] (by kernel_rfl) hB ⟨h3, trivial⟩ ?_
    refine ae_then ?_
    refine aw_false rfl ?_
    refine aw_exit ?_
    refine ae_exit_then ?_
    refine ae_exit_then ?_
    refine ae_exit_same ?_
    refine ae_then ?_
    refine aw_seq ?_
    refine aw_reg [] [4] [] [I best] [] [] (by kernel_rfl) hB trivial ?_
    refine ae_then ?_
    refine aw_ret ?_
    refine ae_ret hB (I best) (by kernel_rfl) (.inl (by rw [hp1, hpx])) rfl (fun _ => trivial)


-- impl.lettersUnder
theorem lettersUnder_ok (l : CellRow) (b : Box) (hr0 : okRow l = true) (hb : (0 ≤ b.X1 ∧ b.X1 ≤ 4095) ∧ 0 ≤ b.X2 ∧ b.X2 ≤ 4095) : Con Tryd.prog 64 [agCellRow l, agBox b] true (.tup [I ((spanS l b l.Text.size).1), I ((spanS l b l.Text.size).2)]) := by
  have hr := okRow_iff.1 hr0
  refine fn_ok (fn := Tryd.f64) (nt := 43) Tryd.func64 rfl rfl rfl rfl (by simp [taggedL, tagged]) fun B hB => ?_
  refine aw_seq ?_
  refine aw_reg [(0, .new 2), (1, .new 3)] [2, 3] [2, 3] [.ref 2 0, .ref 3 0] [some (bxCellRow l), some (bxBox b)] [] (by kernel_rfl) hB trivial ?_
  refine ae_then ?_
  refine aw_seq ?_
  refine aw_reg [] [2, 3, 6, 7] [2, 3] [.ref 2 0, .ref 3 0, I 0, I 0] [some (bxCellRow l), some (bxBox b)] [] (by kernel_rfl) hB trivial ?_
  refine ae_then ?_
  refine aw_seq ?_
  refine aw_seq ?_
  refine aw_reg [] [2, 3, 6, 7, 8] [2, 3] [.ref 2 0, .ref 3 0, I 0, I 0, I 0] [some (bxCellRow l), some (bxBox b)] [] (by kernel_rfl) hB trivial ?_
  refine ae_then ?_
  refine aw_block ?_
  refine aw_loop (fun gn gσ => ∃ (fr_ : Int) (to_ : Int) (k : Int), gn = ((l.Text.size : Int) - k).toNat ∧ (0 ≤ k ∧ k ≤ (l.Text.size : Int)) ∧ (fr_ = (spanS l b k.toNat).1) ∧ (to_ = (spanS l b k.toNat).2) ∧ (0 ≤ to_ ∧ to_ ≤ k) ∧ gσ = mkS [(2, .ref 2 0), (3, .ref 3 0), (6, I fr_), (7, I to_), (8, I k)] [(2, bxCellRow l), (3, bxBox b)]) (((l.Text.size : Int) - 0).toNat) ⟨0, 0, 0, rfl, (by omega), (by rfl), (by rfl), (by omega), rfl⟩ (fun gn gσ hI => ?_)
  obtain ⟨fr_, to_, k, rfl, hi0, hs1, hs2, hs3, rfl⟩ := hI
  refine aw_seq ?_
  refine aw_seq ?_
  by_cases h1 : k < (l.Text.size : Int)
  ·have hkb := mul60 (a := k) (c := l.Cell) (by omega) (by omega)
   have hme := mid_eq k l.Cell
   have he : (2 * (l.X + k * l.Cell)) + l.Cell = 2 * l.X + (2 * k + 1) * l.Cell := by omega
   refine aw_reg [(4, .dec true)] [2, 3, 6, 7, 8, 14] [2, 3] [.ref 2 0, .ref 3 0, I fr_, I to_, I k, Bv true] [some (bxCellRow l), some (bxBox b)] [k < (l.Text.size : Int)] (by kernel_rfl) hB ⟨h1, trivial⟩ ?_
   refine ae_then ?_
   refine aw_true rfl ?_
   refine aw_skip ?_
   refine ae_then ?_
   refine aw_seq ?_
   refine aw_block ?_
   refine aw_seq ?_
   refine aw_reg [] [2, 3, 6, 7, 8, 9] [2, 3] [.ref 2 0, .ref 3 0, I fr_, I to_, I k, I ((2 * (l.X + (k * l.Cell))) + l.Cell)] [some (bxCellRow l), some (bxBox b)] [inR .i64 (k * l.Cell), inR .i64 (l.X + (k * l.Cell)), inR .i64 (2 * (l.X + (k * l.Cell))), inR .i64 ((2 * (l.X + (k * l.Cell))) + l.Cell)] (by kernel_rfl) hB ⟨(inR_i64 (by omega) (by omega)), (inR_i64 (by omega) (by omega)), (inR_i64 (by omega) (by omega)), (inR_i64 (by omega) (by omega)), trivial⟩ ?_
   refine ae_then ?_
   refine aw_seq ?_
   rcases Bool.eq_false_or_eq_true (inB ((2 * (l.X + (k * l.Cell))) + l.Cell) (2 * b.X1) (2 * b.X2)) with h2 | h2
   ·have hqh2 : inB (2 * l.X + (2 * k + 1) * l.Cell) (2 * b.X1) (2 * b.X2) = true := by rw [← he]; exact h2
    refine aw_reg [(7, .call [(true, I ((2 * (l.X + (k * l.Cell))) + l.Cell)), (true, I (2 * b.X1)), (true, I (2 * b.X2))] true (Bv true))] [2, 3, 6, 7, 8, 35] [2, 3] [.ref 2 0, .ref 3 0, I fr_, I to_, I k, Bv true] [some (bxCellRow l), some (bxBox b)] [inR .i64 (2 * b.X1), inR .i64 (2 * b.X2), Con Tryd.prog 20 [I ((2 * (l.X + (k * l.Cell))) + l.Cell), I (2 * b.X1), I (2 * b.X2)] true (Bv true) ∧ ((I ((2 * (l.X + (k * l.Cell))) + l.Cell) : AV) = I ((2 * (l.X + (k * l.Cell))) + l.Cell)) ∧ ((I (2 * b.X1) : AV) = I (2 * b.X1)) ∧ ((I (2 * b.X2) : AV) = I (2 * b.X2)) ∧ True] (by kernel_rfl) hB ⟨(inR_i64 (by omega) (by omega)), (inR_i64 (by omega) (by omega)), ⟨(con_bool h2 (within_ok ((2 * (l.X + (k * l.Cell))) + l.Cell) (2 * b.X1) (2 * b.X2))), rfl, rfl, rfl, trivial⟩, trivial⟩ ?_
    refine ae_then ?_
    refine aw_true rfl ?_
    refine aw_seq ?_
    refine aw_seq ?_
    by_cases h3 : to_ = 0
    ·refine aw_reg [(1, .dec true)] [2, 3, 6, 8, 37] [2, 3] [.ref 2 0, .ref 3 0, I fr_, I k, Bv true] [some (bxCellRow l), some (bxBox b)] [to_ = 0] (by kernel_rfl) hB ⟨h3, trivial⟩ ?_
     refine ae_then ?_
     refine aw_true rfl ?_
     refine aw_reg [] [2, 3, 6, 8] [2, 3] [.ref 2 0, .ref 3 0, I k, I k] [some (bxCellRow l), some (bxBox b)] [] (by kernel_rfl) hB trivial ?_
     refine ae_then ?_
     refine aw_reg [] [2, 3, 6, 7, 8] [2, 3] [.ref 2 0, .ref 3 0, I k, I (k + 1), I k] [some (bxCellRow l), some (bxBox b)] [inR .i64 (k + 1)] (by kernel_rfl) hB ⟨(inR_i64 (by omega) (by omega)), trivial⟩ ?_
     refine ae_block 1 ?_
     refine ae_then ?_
     refine aw_reg [] [2, 3, 6, 7, 8] [2, 3] [.ref 2 0, .ref 3 0, I k, I (k + 1), I (k + 1)] [some (bxCellRow l), some (bxBox b)] [inR .i64 (k + 1)] (by kernel_rfl) hB ⟨(inR_i64 (by omega) (by omega)), trivial⟩ ?_
     exact ae_again _ (by omega) ⟨k, (k + 1), (k + 1), rfl, (by omega), (by first | (rw [spanS_yes hi0.1 (by assumption), ← hs1, ← hs2]; first | (simp only [if_pos (by assumption : to_ = 0)]; done) | (simp only [if_neg (by assumption : ¬ to_ = 0)]; done)) | (rw [spanS_no hi0.1 (by assumption), ← hs1])), (by first | (rw [spanS_yes hi0.1 (by assumption)]; done) | (rw [spanS_no hi0.1 (by assumption), ← hs2])), (by omega), rfl⟩
    ·refine aw_reg [(1, .dec false)] [2, 3, 6, 8, 37] [2, 3] [.ref 2 0, .ref 3 0, I fr_, I k, Bv false] [some (bxCellRow l), some (bxBox b)] [¬ (to_ = 0)] (by kernel_rfl) hB ⟨h3, trivial⟩ ?_
     refine ae_then ?_
     refine aw_false rfl ?_
     refine aw_skip ?_
     refine ae_then ?_
     refine aw_reg [] [2, 3, 6, 7, 8] [2, 3] [.ref 2 0, .ref 3 0, I fr_, I (k + 1), I k] [some (bxCellRow l), some (bxBox b)] [inR .i64 (k + 1)] (by kernel_rfl) hB ⟨(inR_i64 (by omega) (by omega)), trivial⟩ ?_
     refine ae_block 1 ?_
     refine ae_then ?_
     refine aw_reg [] [2, 3, 6, 7, 8] [2, 3] [.ref 2 0, .ref 3 0, I fr_, I (k + 1), I (k + 1)] [some (bxCellRow l), some (bxBox b)] [inR .i64 (k + 1)] (by kernel_rfl) hB ⟨(inR_i64 (by omega) (by omega)), trivial⟩ ?_
     exact ae_again _ (by omega) ⟨fr_, (k + 1), (k + 1), rfl, (by omega), (by first | (rw [spanS_yes hi0.1 (by assumption), ← hs1, ← hs2]; first | (simp only [if_pos (by assumption : to_ = 0)]; done) | (simp only [if_neg (by assumption : ¬ to_ = 0)]; done)) | (rw [spanS_no hi0.1 (by assumption), ← hs1])), (by first | (rw [spanS_yes hi0.1 (by assumption)]; done) | (rw [spanS_no hi0.1 (by assumption), ← hs2])), (by omega), rfl⟩
   ·have hqh2 : inB (2 * l.X + (2 * k + 1) * l.Cell) (2 * b.X1) (2 * b.X2) = false := by rw [← he]; exact h2
    refine aw_reg [(7, .call [(true, I ((2 * (l.X + (k * l.Cell))) + l.Cell)), (true, I (2 * b.X1)), (true, I (2 * b.X2))] true (Bv false))] [2, 3, 6, 7, 8, 35] [2, 3] [.ref 2 0, .ref 3 0, I fr_, I to_, I k, Bv false] [some (bxCellRow l), some (bxBox b)] [inR .i64 (2 * b.X1), inR .i64 (2 * b.X2), Con Tryd.prog 20 [I ((2 * (l.X + (k * l.Cell))) + l.Cell), I (2 * b.X1), I (2 * b.X2)] true (Bv false) ∧ ((I ((2 * (l.X + (k * l.Cell))) + l.Cell) : AV) = I ((2 * (l.X + (k * l.Cell))) + l.Cell)) ∧ ((I (2 * b.X1) : AV) = I (2 * b.X1)) ∧ ((I (2 * b.X2) : AV) = I (2 * b.X2)) ∧ True] (by kernel_rfl) hB ⟨(inR_i64 (by omega) (by omega)), (inR_i64 (by omega) (by omega)), ⟨(con_bool h2 (within_ok ((2 * (l.X + (k * l.Cell))) + l.Cell) (2 * b.X1) (2 * b.X2))), rfl, rfl, rfl, trivial⟩, trivial⟩ ?_
    refine ae_then ?_
    refine aw_false rfl ?_
    refine aw_skip ?_
    refine ae_block 1 ?_
    refine ae_then ?_
    refine aw_reg [] [2, 3, 6, 7, 8] [2, 3] [.ref 2 0, .ref 3 0, I fr_, I to_, I (k + 1)] [some (bxCellRow l), some (bxBox b)] [inR .i64 (k + 1)] (by kernel_rfl) hB ⟨(inR_i64 (by omega) (by omega)), trivial⟩ ?_
    exact ae_again _ (by omega) ⟨fr_, to_, (k + 1), rfl, (by omega), (by first | (rw [spanS_yes hi0.1 (by assumption), ← hs1, ← hs2]; first | (simp only [if_pos (by assumption : to_ = 0)]; done) | (simp only [if_neg (by assumption : ¬ to_ = 0)]; done)) | (rw [spanS_no hi0.1 (by assumption), ← hs1])), (by first | (rw [spanS_yes hi0.1 (by assumption)]; done) | (rw [spanS_no hi0.1 (by assumption), ← hs2])), (by omega), rfl⟩
  ·have hie : k.toNat = l.Text.size := by omega
   rw [hie] at hs1 hs2
   refine aw_reg [(4, .dec false)] [2, 3, 6, 7, 8, 14] [2, 3] [.ref 2 0, .ref 3 0, I fr_, I to_, I k, Bv false] [some (bxCellRow l), some (bxBox b)] [¬ (k < (l.Text.size : Int))] (by kernel_rfl) hB ⟨h1, trivial⟩ ?_
   refine ae_then ?_
   refine aw_false rfl ?_
   refine aw_exit ?_
   refine ae_exit_then ?_
   refine ae_exit_then ?_
   refine ae_exit_same ?_
   refine ae_then ?_
   refine aw_seq ?_
   refine aw_reg [] [4, 5] [] [I fr_, I to_] [] [] (by kernel_rfl) hB trivial ?_
   refine ae_then ?_
   refine aw_ret ?_
   refine ae_ret hB (.tup [I fr_, I to_]) (by kernel_rfl) (.inl (by rw [hs1, hs2])) rfl (fun _ => (by simp [tagged, taggedL]))


-- impl.EditOf
theorem implEditOf_ok (l : CellRow) (s : Stroke) (okl : l.Text.size ≤ 9223372036854775807) : Con Tryd.prog 38 [agCellRow l, .agg [slPoint false s.Points]] true (.tup [agEdit ((editOfR l s).1), I ((editOfR l s).2)]) := by
  refine fn_ok (fn := Tryd.f38) (nt := 70) Tryd.func38 rfl rfl rfl rfl (by simp [taggedL, tagged, tagPoint]) fun B hB => ?_
  refine aw_lens (x := .agg [slPoint false s.Points]) 1 rfl (fun len_s => ?_)
  simp [LenOK, LenL, cPoint, fPoint, slPoint] at len_s
  refine aw_seq ?_
  refine aw_reg [(0, .new 2), (1, .new 3), (2, .new 4)] [2, 3, 4] [2, 3, 4] [.ref 2 0, .ref 3 0, .ref 4 0] [some (bxCellRow l), some (.box [slPoint false s.Points]), some (.box [I 0, I 0, I 0])] [] (by kernel_rfl) hB trivial ?_
  refine ae_then ?_
  refine aw_seq ?_
  refine aw_seq ?_
  rcases Bool.eq_false_or_eq_true (okRow l) with h1 | h1
  ·have hr0 := h1
   have hr := okRow_iff.1 hr0
   rcases Bool.eq_false_or_eq_true (okStroke' s) with h2 | h2
   ·have ok := h2
    have hln := okS_len ok
    have hbx := boxS_all ok
    unfold okBox at hbx
    have hpd := okP_iff.1 (okS_at ok (j := tipS s.Points s.Points.length) (tip_lt (by omega)))
    have htl := tip_lt (xs := s.Points) (by omega)
    have htn : ((tipS s.Points s.Points.length : Nat) : Int).toNat = tipS s.Points s.Points.length := Int.toNat_natCast _
    have hpd2 := hpd
    rw [← htn] at hpd2
    have hsp := spanS_bd l (boxS s.Points s.Points.length) l.Text.size
    refine aw_reg [(1, .call [(true, agCellRow l)] true (Bv true)), (5, .call [(true, .agg [slPoint false s.Points])] true (Bv true))] [2, 3, 4, 18] [2, 3, 4] [.ref 2 0, .ref 3 0, .ref 4 0, Bv false] [some (bxCellRow l), some (.box [slPoint false s.Points]), some (.box [I 0, I 0, I 0])] [Con Tryd.prog 35 [agCellRow l] true (Bv true) ∧ ((agCellRow l : AV) = agCellRow l) ∧ True, Con Tryd.prog 37 [.agg [slPoint false s.Points]] true (Bv true) ∧ ((.agg [slPoint false s.Points] : AV) = .agg [slPoint false s.Points]) ∧ True] (by kernel_rfl) hB ⟨⟨(con_bool h1 (ValidCellRow_ok l okl)), rfl, trivial⟩, ⟨(con_bool h2 (ValidStroke_ok s)), rfl, trivial⟩, trivial⟩ ?_
    refine ae_then ?_
    refine aw_false rfl ?_
    refine aw_skip ?_
    refine ae_then ?_
    refine aw_seq ?_
    refine aw_reg [] [2, 3, 4] [2, 3, 4] [.ref 2 0, .ref 3 0, .ref 4 0] [some (bxCellRow l), some (.box [slPoint false s.Points]), some (.box [I 0, I 0, I 0])] [] (by kernel_rfl) hB trivial ?_
    refine ae_then ?_
    refine aw_seq ?_
    refine aw_seq ?_
    refine aw_reg [(1, .call [(true, .agg [slPoint false s.Points])] true (I (gestI s)))] [2, 3, 4, 21] [2, 3, 4] [.ref 2 0, .ref 3 0, .ref 4 0, I (gestI s)] [some (bxCellRow l), some (.box [slPoint false s.Points]), some (.box [I 0, I 0, I 0])] [Con Tryd.prog 61 [.agg [slPoint false s.Points]] true (I (gestI s)) ∧ ((.agg [slPoint false s.Points] : AV) = .agg [slPoint false s.Points]) ∧ True] (by kernel_rfl) hB ⟨⟨(gestureOf_ok s ok), rfl, trivial⟩, trivial⟩ ?_
    refine ae_then ?_
    refine aw_block ?_
    refine aw_seq ?_
    by_cases h3 : (gestI s) = 2
    ·refine aw_reg [(0, .dec true)] [2, 3, 4, 21, 23] [2, 3, 4] [.ref 2 0, .ref 3 0, .ref 4 0, I (gestI s), Bv true] [some (bxCellRow l), some (.box [slPoint false s.Points]), some (.box [I 0, I 0, I 0])] [(gestI s) = 2] (by kernel_rfl) hB ⟨h3, trivial⟩ ?_
     refine ae_then ?_
     refine aw_true rfl ?_
     refine aw_reg [] [2, 3, 4, 6] [2, 3, 4] [.ref 2 0, .ref 3 0, .ref 4 0, I 1] [some (bxCellRow l), some (.box [slPoint false s.Points]), some (.box [I 0, I 0, I 0])] [] (by kernel_rfl) hB trivial ?_
     refine ae_block 0 ?_
     refine ae_then ?_
     refine aw_seq ?_
     refine aw_reg [(1, .call [(true, .agg [slPoint false s.Points])] true (agBox (boxS s.Points s.Points.length))), (2, .new 7)] [2, 3, 4, 6, 7] [2, 3, 4, 7] [.ref 2 0, .ref 3 0, .ref 4 0, I 1, .ref 7 0] [some (bxCellRow l), some (.box [slPoint false s.Points]), some (.box [I 0, I 0, I 0]), some (bxBox (boxS s.Points s.Points.length))] [Con Tryd.prog 62 [.agg [slPoint false s.Points]] true (agBox (boxS s.Points s.Points.length)) ∧ ((.agg [slPoint false s.Points] : AV) = .agg [slPoint false s.Points]) ∧ True] (by kernel_rfl) hB ⟨⟨(boxOfStroke_ok s ok), rfl, trivial⟩, trivial⟩ ?_
     refine ae_then ?_
     refine aw_seq ?_
     refine aw_seq ?_
     by_cases h4 : (l.Y + (2 * l.Cell)) < ((boxS s.Points s.Points.length).Y1)
     ·refine aw_reg [(8, .dec true)] [2, 3, 4, 6, 7, 46] [2, 3, 4, 7] [.ref 2 0, .ref 3 0, .ref 4 0, I 1, .ref 7 0, Bv true] [some (bxCellRow l), some (.box [slPoint false s.Points]), some (.box [I 0, I 0, I 0]), some (bxBox (boxS s.Points s.Points.length))] [inR .i64 (2 * l.Cell), inR .i64 (l.Y + (2 * l.Cell)), (l.Y + (2 * l.Cell)) < ((boxS s.Points s.Points.length).Y1)] (by kernel_rfl) hB ⟨(inR_i64 (by omega) (by omega)), (inR_i64 (by omega) (by omega)), h4, trivial⟩ ?_
      refine ae_then ?_
      refine aw_true rfl ?_
      refine aw_seq ?_
      refine aw_reg [] [4, 5] [4] [.ref 4 0, I 3] [some (.box [I 0, I 0, I 0])] [] (by kernel_rfl) hB trivial ?_
      refine ae_then ?_
      refine aw_ret ?_
      refine ae_ret_then ?_
      refine ae_ret hB (.tup [.agg [I 0, I 0, I 0], I 3]) (by kernel_rfl) (.inl (by simp [editOfR, editR, kindI, *])) rfl (fun _ => (by simp [tagged, taggedL]))
     ·by_cases h5 : ((boxS s.Points s.Points.length).Y2) < l.Y
      ·refine aw_reg [(8, .dec false), (14, .dec true)] [2, 3, 4, 6, 7, 46] [2, 3, 4, 7] [.ref 2 0, .ref 3 0, .ref 4 0, I 1, .ref 7 0, Bv true] [some (bxCellRow l), some (.box [slPoint false s.Points]), some (.box [I 0, I 0, I 0]), some (bxBox (boxS s.Points s.Points.length))] [inR .i64 (2 * l.Cell), inR .i64 (l.Y + (2 * l.Cell)), ¬ ((l.Y + (2 * l.Cell)) < ((boxS s.Points s.Points.length).Y1)), ((boxS s.Points s.Points.length).Y2) < l.Y] (by kernel_rfl) hB ⟨(inR_i64 (by omega) (by omega)), (inR_i64 (by omega) (by omega)), h4, h5, trivial⟩ ?_
       refine ae_then ?_
       refine aw_true rfl ?_
       refine aw_seq ?_
       refine aw_reg [] [4, 5] [4] [.ref 4 0, I 3] [some (.box [I 0, I 0, I 0])] [] (by kernel_rfl) hB trivial ?_
       refine ae_then ?_
       refine aw_ret ?_
       refine ae_ret_then ?_
       refine ae_ret hB (.tup [.agg [I 0, I 0, I 0], I 3]) (by kernel_rfl) (.inl (by simp [editOfR, editR, kindI, *])) rfl (fun _ => (by simp [tagged, taggedL]))
      ·refine aw_reg [(8, .dec false), (14, .dec false)] [2, 3, 4, 6, 7, 46] [2, 3, 4, 7] [.ref 2 0, .ref 3 0, .ref 4 0, I 1, .ref 7 0, Bv false] [some (bxCellRow l), some (.box [slPoint false s.Points]), some (.box [I 0, I 0, I 0]), some (bxBox (boxS s.Points s.Points.length))] [inR .i64 (2 * l.Cell), inR .i64 (l.Y + (2 * l.Cell)), ¬ ((l.Y + (2 * l.Cell)) < ((boxS s.Points s.Points.length).Y1)), ¬ (((boxS s.Points s.Points.length).Y2) < l.Y)] (by kernel_rfl) hB ⟨(inR_i64 (by omega) (by omega)), (inR_i64 (by omega) (by omega)), h4, h5, trivial⟩ ?_
       refine ae_then ?_
       refine aw_false rfl ?_
       refine aw_skip ?_
       refine ae_then ?_
       refine aw_seq ?_
       refine aw_seq ?_
       refine aw_reg [(1, .dec false)] [2, 3, 4, 6, 7, 49] [2, 3, 4, 7] [.ref 2 0, .ref 3 0, .ref 4 0, I 1, .ref 7 0, Bv false] [some (bxCellRow l), some (.box [slPoint false s.Points]), some (.box [I 0, I 0, I 0]), some (bxBox (boxS s.Points s.Points.length))] [¬ ((1 : Int) = 3)] (by kernel_rfl) hB ⟨(by decide), trivial⟩ ?_
       refine ae_then ?_
       refine aw_false rfl ?_
       refine aw_skip ?_
       refine ae_then ?_
       refine aw_seq ?_
       refine aw_reg [(2, .call [(true, agCellRow l), (true, agBox (boxS s.Points s.Points.length))] true (.tup [I ((spanS l (boxS s.Points s.Points.length) l.Text.size).1), I ((spanS l (boxS s.Points s.Points.length) l.Text.size).2)]))] [4, 6, 9, 10] [4] [.ref 4 0, I 1, I ((spanS l (boxS s.Points s.Points.length) l.Text.size).1), I ((spanS l (boxS s.Points s.Points.length) l.Text.size).2)] [some (.box [I 0, I 0, I 0])] [Con Tryd.prog 64 [agCellRow l, agBox (boxS s.Points s.Points.length)] true (.tup [I ((spanS l (boxS s.Points s.Points.length) l.Text.size).1), I ((spanS l (boxS s.Points s.Points.length) l.Text.size).2)]) ∧ ((agCellRow l : AV) = agCellRow l) ∧ ((agBox (boxS s.Points s.Points.length) : AV) = agBox (boxS s.Points s.Points.length)) ∧ True] (by kernel_rfl) hB ⟨⟨(lettersUnder_ok l (boxS s.Points s.Points.length) hr0 (by omega)), rfl, rfl, trivial⟩, trivial⟩ ?_
       refine ae_then ?_
       refine aw_seq ?_
       refine aw_seq ?_
       by_cases h6 : ((spanS l (boxS s.Points s.Points.length) l.Text.size).2) = 0
       ·refine aw_reg [(1, .dec true)] [4, 6, 9, 10, 64] [4] [.ref 4 0, I 1, I ((spanS l (boxS s.Points s.Points.length) l.Text.size).1), I ((spanS l (boxS s.Points s.Points.length) l.Text.size).2), Bv true] [some (.box [I 0, I 0, I 0])] [((spanS l (boxS s.Points s.Points.length) l.Text.size).2) = 0] (by kernel_rfl) hB ⟨h6, trivial⟩ ?_
        refine ae_then ?_
        refine aw_true rfl ?_
        refine aw_seq ?_
        refine aw_reg [] [4, 5] [4] [.ref 4 0, I 3] [some (.box [I 0, I 0, I 0])] [] (by kernel_rfl) hB trivial ?_
        refine ae_then ?_
        refine aw_ret ?_
        refine ae_ret_then ?_
        refine ae_ret hB (.tup [.agg [I 0, I 0, I 0], I 3]) (by kernel_rfl) (.inl (by simp [editOfR, editR, kindI, *])) rfl (fun _ => (by simp [tagged, taggedL]))
       ·refine aw_reg [(1, .dec false)] [4, 6, 9, 10, 64] [4] [.ref 4 0, I 1, I ((spanS l (boxS s.Points s.Points.length) l.Text.size).1), I ((spanS l (boxS s.Points s.Points.length) l.Text.size).2), Bv false] [some (.box [I 0, I 0, I 0])] [¬ (((spanS l (boxS s.Points s.Points.length) l.Text.size).2) = 0)] (by kernel_rfl) hB ⟨h6, trivial⟩ ?_
        refine ae_then ?_
        refine aw_false rfl ?_
        refine aw_skip ?_
        refine ae_then ?_
        refine aw_seq ?_
        refine aw_reg [] [4, 5] [4] [.ref 4 0, I 0] [some (.box [I 1, I ((spanS l (boxS s.Points s.Points.length) l.Text.size).1), I ((spanS l (boxS s.Points s.Points.length) l.Text.size).2)])] [] (by kernel_rfl) hB trivial ?_
        refine ae_then ?_
        refine aw_ret ?_
        refine ae_ret hB (.tup [.agg [I 1, I ((spanS l (boxS s.Points s.Points.length) l.Text.size).1), I ((spanS l (boxS s.Points s.Points.length) l.Text.size).2)], I 0]) (by kernel_rfl) (.inl (by simp [editOfR, editR, kindI, *])) rfl (fun _ => (by simp [tagged, taggedL]))
    ·refine aw_reg [(0, .dec false)] [2, 3, 4, 21, 23] [2, 3, 4] [.ref 2 0, .ref 3 0, .ref 4 0, I (gestI s), Bv false] [some (bxCellRow l), some (.box [slPoint false s.Points]), some (.box [I 0, I 0, I 0])] [¬ ((gestI s) = 2)] (by kernel_rfl) hB ⟨h3, trivial⟩ ?_
     refine ae_then ?_
     refine aw_false rfl ?_
     refine aw_seq ?_
     by_cases h7 : (gestI s) = 3
     ·refine aw_reg [(0, .dec true)] [2, 3, 4, 21, 25] [2, 3, 4] [.ref 2 0, .ref 3 0, .ref 4 0, I (gestI s), Bv true] [some (bxCellRow l), some (.box [slPoint false s.Points]), some (.box [I 0, I 0, I 0])] [(gestI s) = 3] (by kernel_rfl) hB ⟨h7, trivial⟩ ?_
      refine ae_then ?_
      refine aw_true rfl ?_
      refine aw_reg [] [2, 3, 4, 6] [2, 3, 4] [.ref 2 0, .ref 3 0, .ref 4 0, I 2] [some (bxCellRow l), some (.box [slPoint false s.Points]), some (.box [I 0, I 0, I 0])] [] (by kernel_rfl) hB trivial ?_
      refine ae_block 0 ?_
      refine ae_then ?_
      refine aw_seq ?_
      refine aw_reg [(1, .call [(true, .agg [slPoint false s.Points])] true (agBox (boxS s.Points s.Points.length))), (2, .new 7)] [2, 3, 4, 6, 7] [2, 3, 4, 7] [.ref 2 0, .ref 3 0, .ref 4 0, I 2, .ref 7 0] [some (bxCellRow l), some (.box [slPoint false s.Points]), some (.box [I 0, I 0, I 0]), some (bxBox (boxS s.Points s.Points.length))] [Con Tryd.prog 62 [.agg [slPoint false s.Points]] true (agBox (boxS s.Points s.Points.length)) ∧ ((.agg [slPoint false s.Points] : AV) = .agg [slPoint false s.Points]) ∧ True] (by kernel_rfl) hB ⟨⟨(boxOfStroke_ok s ok), rfl, trivial⟩, trivial⟩ ?_
      refine ae_then ?_
      refine aw_seq ?_
      refine aw_seq ?_
      by_cases h8 : (l.Y + (2 * l.Cell)) < ((boxS s.Points s.Points.length).Y1)
      ·refine aw_reg [(8, .dec true)] [2, 3, 4, 6, 7, 46] [2, 3, 4, 7] [.ref 2 0, .ref 3 0, .ref 4 0, I 2, .ref 7 0, Bv true] [some (bxCellRow l), some (.box [slPoint false s.Points]), some (.box [I 0, I 0, I 0]), some (bxBox (boxS s.Points s.Points.length))] [inR .i64 (2 * l.Cell), inR .i64 (l.Y + (2 * l.Cell)), (l.Y + (2 * l.Cell)) < ((boxS s.Points s.Points.length).Y1)] (by kernel_rfl) hB ⟨(inR_i64 (by omega) (by omega)), (inR_i64 (by omega) (by omega)), h8, trivial⟩ ?_
       refine ae_then ?_
       refine aw_true rfl ?_
       refine aw_seq ?_
       refine aw_reg [] [4, 5] [4] [.ref 4 0, I 3] [some (.box [I 0, I 0, I 0])] [] (by kernel_rfl) hB trivial ?_
       refine ae_then ?_
       refine aw_ret ?_
       refine ae_ret_then ?_
       refine ae_ret hB (.tup [.agg [I 0, I 0, I 0], I 3]) (by kernel_rfl) (.inl (by simp [editOfR, editR, kindI, *])) rfl (fun _ => (by simp [tagged, taggedL]))
      ·by_cases h9 : ((boxS s.Points s.Points.length).Y2) < l.Y
       ·refine aw_reg [(8, .dec false), (14, .dec true)] [2, 3, 4, 6, 7, 46] [2, 3, 4, 7] [.ref 2 0, .ref 3 0, .ref 4 0, I 2, .ref 7 0, Bv true] [some (bxCellRow l), some (.box [slPoint false s.Points]), some (.box [I 0, I 0, I 0]), some (bxBox (boxS s.Points s.Points.length))] [inR .i64 (2 * l.Cell), inR .i64 (l.Y + (2 * l.Cell)), ¬ ((l.Y + (2 * l.Cell)) < ((boxS s.Points s.Points.length).Y1)), ((boxS s.Points s.Points.length).Y2) < l.Y] (by kernel_rfl) hB ⟨(inR_i64 (by omega) (by omega)), (inR_i64 (by omega) (by omega)), h8, h9, trivial⟩ ?_
        refine ae_then ?_
        refine aw_true rfl ?_
        refine aw_seq ?_
        refine aw_reg [] [4, 5] [4] [.ref 4 0, I 3] [some (.box [I 0, I 0, I 0])] [] (by kernel_rfl) hB trivial ?_
        refine ae_then ?_
        refine aw_ret ?_
        refine ae_ret_then ?_
        refine ae_ret hB (.tup [.agg [I 0, I 0, I 0], I 3]) (by kernel_rfl) (.inl (by simp [editOfR, editR, kindI, *])) rfl (fun _ => (by simp [tagged, taggedL]))
       ·refine aw_reg [(8, .dec false), (14, .dec false)] [2, 3, 4, 6, 7, 46] [2, 3, 4, 7] [.ref 2 0, .ref 3 0, .ref 4 0, I 2, .ref 7 0, Bv false] [some (bxCellRow l), some (.box [slPoint false s.Points]), some (.box [I 0, I 0, I 0]), some (bxBox (boxS s.Points s.Points.length))] [inR .i64 (2 * l.Cell), inR .i64 (l.Y + (2 * l.Cell)), ¬ ((l.Y + (2 * l.Cell)) < ((boxS s.Points s.Points.length).Y1)), ¬ (((boxS s.Points s.Points.length).Y2) < l.Y)] (by kernel_rfl) hB ⟨(inR_i64 (by omega) (by omega)), (inR_i64 (by omega) (by omega)), h8, h9, trivial⟩ ?_
        refine ae_then ?_
        refine aw_false rfl ?_
        refine aw_skip ?_
        refine ae_then ?_
        refine aw_seq ?_
        refine aw_seq ?_
        refine aw_reg [(1, .dec false)] [2, 3, 4, 6, 7, 49] [2, 3, 4, 7] [.ref 2 0, .ref 3 0, .ref 4 0, I 2, .ref 7 0, Bv false] [some (bxCellRow l), some (.box [slPoint false s.Points]), some (.box [I 0, I 0, I 0]), some (bxBox (boxS s.Points s.Points.length))] [¬ ((2 : Int) = 3)] (by kernel_rfl) hB ⟨(by decide), trivial⟩ ?_
        refine ae_then ?_
        refine aw_false rfl ?_
        refine aw_skip ?_
        refine ae_then ?_
        refine aw_seq ?_
        refine aw_reg [(2, .call [(true, agCellRow l), (true, agBox (boxS s.Points s.Points.length))] true (.tup [I ((spanS l (boxS s.Points s.Points.length) l.Text.size).1), I ((spanS l (boxS s.Points s.Points.length) l.Text.size).2)]))] [4, 6, 9, 10] [4] [.ref 4 0, I 2, I ((spanS l (boxS s.Points s.Points.length) l.Text.size).1), I ((spanS l (boxS s.Points s.Points.length) l.Text.size).2)] [some (.box [I 0, I 0, I 0])] [Con Tryd.prog 64 [agCellRow l, agBox (boxS s.Points s.Points.length)] true (.tup [I ((spanS l (boxS s.Points s.Points.length) l.Text.size).1), I ((spanS l (boxS s.Points s.Points.length) l.Text.size).2)]) ∧ ((agCellRow l : AV) = agCellRow l) ∧ ((agBox (boxS s.Points s.Points.length) : AV) = agBox (boxS s.Points s.Points.length)) ∧ True] (by kernel_rfl) hB ⟨⟨(lettersUnder_ok l (boxS s.Points s.Points.length) hr0 (by omega)), rfl, rfl, trivial⟩, trivial⟩ ?_
        refine ae_then ?_
        refine aw_seq ?_
        refine aw_seq ?_
        by_cases h10 : ((spanS l (boxS s.Points s.Points.length) l.Text.size).2) = 0
        ·refine aw_reg [(1, .dec true)] [4, 6, 9, 10, 64] [4] [.ref 4 0, I 2, I ((spanS l (boxS s.Points s.Points.length) l.Text.size).1), I ((spanS l (boxS s.Points s.Points.length) l.Text.size).2), Bv true] [some (.box [I 0, I 0, I 0])] [((spanS l (boxS s.Points s.Points.length) l.Text.size).2) = 0] (by kernel_rfl) hB ⟨h10, trivial⟩ ?_
         refine ae_then ?_
         refine aw_true rfl ?_
         refine aw_seq ?_
         refine aw_reg [] [4, 5] [4] [.ref 4 0, I 3] [some (.box [I 0, I 0, I 0])] [] (by kernel_rfl) hB trivial ?_
         refine ae_then ?_
         refine aw_ret ?_
         refine ae_ret_then ?_
         refine ae_ret hB (.tup [.agg [I 0, I 0, I 0], I 3]) (by kernel_rfl) (.inl (by simp [editOfR, editR, kindI, *])) rfl (fun _ => (by simp [tagged, taggedL]))
        ·refine aw_reg [(1, .dec false)] [4, 6, 9, 10, 64] [4] [.ref 4 0, I 2, I ((spanS l (boxS s.Points s.Points.length) l.Text.size).1), I ((spanS l (boxS s.Points s.Points.length) l.Text.size).2), Bv false] [some (.box [I 0, I 0, I 0])] [¬ (((spanS l (boxS s.Points s.Points.length) l.Text.size).2) = 0)] (by kernel_rfl) hB ⟨h10, trivial⟩ ?_
         refine ae_then ?_
         refine aw_false rfl ?_
         refine aw_skip ?_
         refine ae_then ?_
         refine aw_seq ?_
         refine aw_reg [] [4, 5] [4] [.ref 4 0, I 0] [some (.box [I 2, I ((spanS l (boxS s.Points s.Points.length) l.Text.size).1), I ((spanS l (boxS s.Points s.Points.length) l.Text.size).2)])] [] (by kernel_rfl) hB trivial ?_
         refine ae_then ?_
         refine aw_ret ?_
         refine ae_ret hB (.tup [.agg [I 2, I ((spanS l (boxS s.Points s.Points.length) l.Text.size).1), I ((spanS l (boxS s.Points s.Points.length) l.Text.size).2)], I 0]) (by kernel_rfl) (.inl (by simp [editOfR, editR, kindI, *])) rfl (fun _ => (by simp [tagged, taggedL]))
     ·refine aw_reg [(0, .dec false)] [2, 3, 4, 21, 25] [2, 3, 4] [.ref 2 0, .ref 3 0, .ref 4 0, I (gestI s), Bv false] [some (bxCellRow l), some (.box [slPoint false s.Points]), some (.box [I 0, I 0, I 0])] [¬ ((gestI s) = 3)] (by kernel_rfl) hB ⟨h7, trivial⟩ ?_
      refine ae_then ?_
      refine aw_false rfl ?_
      refine aw_seq ?_
      by_cases h11 : (gestI s) = 4
      ·refine aw_reg [(0, .dec true)] [2, 3, 4, 27] [2, 3, 4] [.ref 2 0, .ref 3 0, .ref 4 0, Bv true] [some (bxCellRow l), some (.box [slPoint false s.Points]), some (.box [I 0, I 0, I 0])] [(gestI s) = 4] (by kernel_rfl) hB ⟨h11, trivial⟩ ?_
       refine ae_then ?_
       refine aw_true rfl ?_
       refine aw_reg [] [2, 3, 4, 6] [2, 3, 4] [.ref 2 0, .ref 3 0, .ref 4 0, I 3] [some (bxCellRow l), some (.box [slPoint false s.Points]), some (.box [I 0, I 0, I 0])] [] (by kernel_rfl) hB trivial ?_
       refine ae_block 0 ?_
       refine ae_then ?_
       refine aw_seq ?_
       refine aw_reg [(1, .call [(true, .agg [slPoint false s.Points])] true (agBox (boxS s.Points s.Points.length))), (2, .new 7)] [2, 3, 4, 6, 7] [2, 3, 4, 7] [.ref 2 0, .ref 3 0, .ref 4 0, I 3, .ref 7 0] [some (bxCellRow l), some (.box [slPoint false s.Points]), some (.box [I 0, I 0, I 0]), some (bxBox (boxS s.Points s.Points.length))] [Con Tryd.prog 62 [.agg [slPoint false s.Points]] true (agBox (boxS s.Points s.Points.length)) ∧ ((.agg [slPoint false s.Points] : AV) = .agg [slPoint false s.Points]) ∧ True] (by kernel_rfl) hB ⟨⟨(boxOfStroke_ok s ok), rfl, trivial⟩, trivial⟩ ?_
       refine ae_then ?_
       refine aw_seq ?_
       refine aw_seq ?_
       by_cases h12 : (l.Y + (2 * l.Cell)) < ((boxS s.Points s.Points.length).Y1)
       ·refine aw_reg [(8, .dec true)] [2, 3, 4, 6, 7, 46] [2, 3, 4, 7] [.ref 2 0, .ref 3 0, .ref 4 0, I 3, .ref 7 0, Bv true] [some (bxCellRow l), some (.box [slPoint false s.Points]), some (.box [I 0, I 0, I 0]), some (bxBox (boxS s.Points s.Points.length))] [inR .i64 (2 * l.Cell), inR .i64 (l.Y + (2 * l.Cell)), (l.Y + (2 * l.Cell)) < ((boxS s.Points s.Points.length).Y1)] (by kernel_rfl) hB ⟨(inR_i64 (by omega) (by omega)), (inR_i64 (by omega) (by omega)), h12, trivial⟩ ?_
        refine ae_then ?_
        refine aw_true rfl ?_
        refine aw_seq ?_
        refine aw_reg [] [4, 5] [4] [.ref 4 0, I 3] [some (.box [I 0, I 0, I 0])] [] (by kernel_rfl) hB trivial ?_
        refine ae_then ?_
        refine aw_ret ?_
        refine ae_ret_then ?_
        refine ae_ret hB (.tup [.agg [I 0, I 0, I 0], I 3]) (by kernel_rfl) (.inl (by simp [editOfR, editR, kindI, *])) rfl (fun _ => (by simp [tagged, taggedL]))
       ·by_cases h13 : ((boxS s.Points s.Points.length).Y2) < l.Y
        ·refine aw_reg [(8, .dec false), (14, .dec true)] [2, 3, 4, 6, 7, 46] [2, 3, 4, 7] [.ref 2 0, .ref 3 0, .ref 4 0, I 3, .ref 7 0, Bv true] [some (bxCellRow l), some (.box [slPoint false s.Points]), some (.box [I 0, I 0, I 0]), some (bxBox (boxS s.Points s.Points.length))] [inR .i64 (2 * l.Cell), inR .i64 (l.Y + (2 * l.Cell)), ¬ ((l.Y + (2 * l.Cell)) < ((boxS s.Points s.Points.length).Y1)), ((boxS s.Points s.Points.length).Y2) < l.Y] (by kernel_rfl) hB ⟨(inR_i64 (by omega) (by omega)), (inR_i64 (by omega) (by omega)), h12, h13, trivial⟩ ?_
         refine ae_then ?_
         refine aw_true rfl ?_
         refine aw_seq ?_
         refine aw_reg [] [4, 5] [4] [.ref 4 0, I 3] [some (.box [I 0, I 0, I 0])] [] (by kernel_rfl) hB trivial ?_
         refine ae_then ?_
         refine aw_ret ?_
         refine ae_ret_then ?_
         refine ae_ret hB (.tup [.agg [I 0, I 0, I 0], I 3]) (by kernel_rfl) (.inl (by simp [editOfR, editR, kindI, *])) rfl (fun _ => (by simp [tagged, taggedL]))
        ·refine aw_reg [(8, .dec false), (14, .dec false)] [2, 3, 4, 6, 7, 46] [2, 3, 4, 7] [.ref 2 0, .ref 3 0, .ref 4 0, I 3, .ref 7 0, Bv false] [some (bxCellRow l), some (.box [slPoint false s.Points]), some (.box [I 0, I 0, I 0]), some (bxBox (boxS s.Points s.Points.length))] [inR .i64 (2 * l.Cell), inR .i64 (l.Y + (2 * l.Cell)), ¬ ((l.Y + (2 * l.Cell)) < ((boxS s.Points s.Points.length).Y1)), ¬ (((boxS s.Points s.Points.length).Y2) < l.Y)] (by kernel_rfl) hB ⟨(inR_i64 (by omega) (by omega)), (inR_i64 (by omega) (by omega)), h12, h13, trivial⟩ ?_
         refine ae_then ?_
         refine aw_false rfl ?_
         refine aw_skip ?_
         refine ae_then ?_
         refine aw_seq ?_
         refine aw_seq ?_
         refine aw_reg [(1, .dec true)] [2, 3, 4, 6, 7, 49] [2, 3, 4, 7] [.ref 2 0, .ref 3 0, .ref 4 0, I 3, .ref 7 0, Bv true] [some (bxCellRow l), some (.box [slPoint false s.Points]), some (.box [I 0, I 0, I 0]), some (bxBox (boxS s.Points s.Points.length))] [(3 : Int) = 3] (by kernel_rfl) hB ⟨(by decide), trivial⟩ ?_
         refine ae_then ?_
         refine aw_true rfl ?_
         refine aw_seq ?_
         refine aw_reg [(2, .call [(true, agCellRow l), (true, .agg [slPoint false s.Points])] true (I (placeS l (at_ s.Points (tipS s.Points s.Points.length)).X l.Text.size)))] [4, 6, 8] [4] [.ref 4 0, I 3, I (placeS l (at_ s.Points (tipS s.Points s.Points.length)).X l.Text.size)] [some (.box [I 0, I 0, I 0])] [Con Tryd.prog 63 [agCellRow l, .agg [slPoint false s.Points]] true (I (placeS l (at_ s.Points (tipS s.Points s.Points.length)).X l.Text.size)) ∧ ((agCellRow l : AV) = agCellRow l) ∧ ((.agg [slPoint false s.Points] : AV) = .agg [slPoint false s.Points]) ∧ True] (by kernel_rfl) hB ⟨⟨(insertPlace_ok l s hr0 ok), rfl, rfl, trivial⟩, trivial⟩ ?_
         refine ae_then ?_
         refine aw_seq ?_
         refine aw_reg [] [4, 5] [4] [.ref 4 0, I 0] [some (.box [I 3, I (placeS l (at_ s.Points (tipS s.Points s.Points.length)).X l.Text.size), I (placeS l (at_ s.Points (tipS s.Points s.Points.length)).X l.Text.size)])] [] (by kernel_rfl) hB trivial ?_
         refine ae_then ?_
         refine aw_ret ?_
         refine ae_ret_then ?_
         refine ae_ret hB (.tup [.agg [I 3, I (placeS l (at_ s.Points (tipS s.Points s.Points.length)).X l.Text.size), I (placeS l (at_ s.Points (tipS s.Points s.Points.length)).X l.Text.size)], I 0]) (by kernel_rfl) (.inl (by simp [editOfR, editR, kindI, *])) rfl (fun _ => (by simp [tagged, taggedL]))
      ·refine aw_reg [(0, .dec false)] [2, 3, 4, 27] [2, 3, 4] [.ref 2 0, .ref 3 0, .ref 4 0, Bv false] [some (bxCellRow l), some (.box [slPoint false s.Points]), some (.box [I 0, I 0, I 0])] [¬ ((gestI s) = 4)] (by kernel_rfl) hB ⟨h11, trivial⟩ ?_
       refine ae_then ?_
       refine aw_false rfl ?_
       refine aw_seq ?_
       refine aw_reg [] [4, 5] [4] [.ref 4 0, I 6] [some (.box [I 0, I 0, I 0])] [] (by kernel_rfl) hB trivial ?_
       refine ae_then ?_
       refine aw_ret ?_
       refine ae_ret_block (ae_ret_then ?_)
       refine ae_ret hB (.tup [.agg [I 0, I 0, I 0], I 6]) (by kernel_rfl) (.inl (by simp [editOfR, editR, kindI, *])) rfl (fun _ => (by simp [tagged, taggedL]))
   ·refine aw_reg [(1, .call [(true, agCellRow l)] true (Bv true)), (5, .call [(true, .agg [slPoint false s.Points])] true (Bv false))] [2, 3, 4, 18] [2, 3, 4] [.ref 2 0, .ref 3 0, .ref 4 0, Bv true] [some (bxCellRow l), some (.box [slPoint false s.Points]), some (.box [I 0, I 0, I 0])] [Con Tryd.prog 35 [agCellRow l] true (Bv true) ∧ ((agCellRow l : AV) = agCellRow l) ∧ True, Con Tryd.prog 37 [.agg [slPoint false s.Points]] true (Bv false) ∧ ((.agg [slPoint false s.Points] : AV) = .agg [slPoint false s.Points]) ∧ True] (by kernel_rfl) hB ⟨⟨(con_bool h1 (ValidCellRow_ok l okl)), rfl, trivial⟩, ⟨(con_bool h2 (ValidStroke_ok s)), rfl, trivial⟩, trivial⟩ ?_
    refine ae_then ?_
    refine aw_true rfl ?_
    refine aw_seq ?_
    refine aw_reg [] [4, 5] [4] [.ref 4 0, I 1] [some (.box [I 0, I 0, I 0])] [] (by kernel_rfl) hB trivial ?_
    refine ae_then ?_
    refine aw_ret ?_
    refine ae_ret_then ?_
    refine ae_ret hB (.tup [.agg [I 0, I 0, I 0], I 1]) (by kernel_rfl) (.inl (by simp [editOfR, editR, kindI, *])) rfl (fun _ => (by simp [tagged, taggedL]))
  ·refine aw_reg [(1, .call [(true, agCellRow l)] true (Bv false))] [2, 3, 4, 18] [2, 3, 4] [.ref 2 0, .ref 3 0, .ref 4 0, Bv true] [some (bxCellRow l), some (.box [slPoint false s.Points]), some (.box [I 0, I 0, I 0])] [Con Tryd.prog 35 [agCellRow l] true (Bv false) ∧ ((agCellRow l : AV) = agCellRow l) ∧ True] (by kernel_rfl) hB ⟨⟨(con_bool h1 (ValidCellRow_ok l okl)), rfl, trivial⟩, trivial⟩ ?_
   refine ae_then ?_
   refine aw_true rfl ?_
   refine aw_seq ?_
   refine aw_reg [] [4, 5] [4] [.ref 4 0, I 1] [some (.box [I 0, I 0, I 0])] [] (by kernel_rfl) hB trivial ?_
   refine ae_then ?_
   refine aw_ret ?_
   refine ae_ret_then ?_
   refine ae_ret hB (.tup [.agg [I 0, I 0, I 0], I 1]) (by kernel_rfl) (.inl (by simp [editOfR, editR, kindI, *])) rfl (fun _ => (by simp [tagged, taggedL]))


-- impl.ApplyEdit
theorem implApplyEdit_ok (l : CellRow) (e : Edit) (insert : ByteArray) (okl : l.Text.size ≤ 9223372036854775807) (oki : insert.size ≤ 1048576) : Con Tryd.prog 39 [agCellRow l, agEdit e, Sv insert] true (.tup [agCellRow (applyRow l e insert), I (chkI l e insert)]) := by
  have hnil := ba_nil
  refine fn_ok (fn := Tryd.f39) (nt := 82) Tryd.func39 rfl rfl rfl rfl (by simp [taggedL, tagged]) fun B hB => ?_
  refine aw_seq ?_
  refine aw_reg [(0, .new 3), (1, .new 4), (2, .new 6)] [2, 3, 4, 6] [3, 4, 6] [Sv insert, .ref 3 0, .ref 4 0, .ref 6 0] [some (bxCellRow l), some (bxEdit e), some (.box [Sv (⟨#[]⟩ : ByteArray), I 0, I 0, I 0])] [] (by kernel_rfl) hB trivial ?_
  refine ae_then ?_
  refine aw_seq ?_
  refine aw_seq ?_
  rcases Bool.eq_false_or_eq_true (okRow l) with h1 | h1
  ·have hr := okRow_iff.1 h1
   rcases Bool.eq_false_or_eq_true (lettersB insert) with h2 | h2
   ·rcases Bool.eq_false_or_eq_true (inB e.Kind 1 3) with h3 | h3
    ·have hinh3 := inB_iff.1 h3
     refine aw_reg [(1, .call [(true, agCellRow l)] true (Bv true)), (5, .call [(true, Sv insert)] true (Bv true)), (11, .call [(true, I e.Kind), (true, I 1), (true, I 3)] true (Bv true))] [2, 3, 4, 6, 21] [3, 4, 6] [Sv insert, .ref 3 0, .ref 4 0, .ref 6 0, Bv false] [some (bxCellRow l), some (bxEdit e), some (.box [Sv (⟨#[]⟩ : ByteArray), I 0, I 0, I 0])] [Con Tryd.prog 35 [agCellRow l] true (Bv true) ∧ ((agCellRow l : AV) = agCellRow l) ∧ True, Con Tryd.prog 36 [Sv insert] true (Bv true) ∧ ((Sv insert : AV) = Sv insert) ∧ True, Con Tryd.prog 20 [I e.Kind, I 1, I 3] true (Bv true) ∧ ((I e.Kind : AV) = I e.Kind) ∧ ((I 1 : AV) = I 1) ∧ ((I 3 : AV) = I 3) ∧ True] (by kernel_rfl) hB ⟨⟨(con_bool h1 (ValidCellRow_ok l okl)), rfl, trivial⟩, ⟨(con_bool h2 (areCells_ok insert (by omega))), rfl, trivial⟩, ⟨(con_bool h3 (within_ok e.Kind 1 3)), rfl, rfl, rfl, trivial⟩, trivial⟩ ?_
     refine ae_then ?_
     refine aw_false rfl ?_
     refine aw_skip ?_
     refine ae_then ?_
     refine aw_seq ?_
     refine aw_seq ?_
     rcases Bool.eq_false_or_eq_true (inB e.From 0 e.To) with h4 | h4
     ·have hinh4 := inB_iff.1 h4
      by_cases h5 : (l.Text.size : Int) < e.To
      ·refine aw_reg [(4, .call [(true, I e.From), (true, I 0), (true, I e.To)] true (Bv true)), (12, .dec true)] [2, 3, 4, 6, 48] [3, 4, 6] [Sv insert, .ref 3 0, .ref 4 0, .ref 6 0, Bv true] [some (bxCellRow l), some (bxEdit e), some (.box [Sv (⟨#[]⟩ : ByteArray), I 0, I 0, I 0])] [Con Tryd.prog 20 [I e.From, I 0, I e.To] true (Bv true) ∧ ((I e.From : AV) = I e.From) ∧ ((I 0 : AV) = I 0) ∧ ((I e.To : AV) = I e.To) ∧ True, (l.Text.size : Int) < e.To] (by kernel_rfl) hB ⟨⟨(con_bool h4 (within_ok e.From 0 e.To)), rfl, rfl, rfl, trivial⟩, h5, trivial⟩ ?_
       refine ae_then ?_
       refine aw_true rfl ?_
       refine aw_seq ?_
       refine aw_reg [] [6, 7] [6] [.ref 6 0, I 2] [some (.box [Sv (⟨#[]⟩ : ByteArray), I 0, I 0, I 0])] [] (by kernel_rfl) hB trivial ?_
       refine ae_then ?_
       refine aw_ret ?_
       refine ae_ret_then ?_
       refine ae_ret hB (.tup [.agg [Sv (⟨#[]⟩ : ByteArray), I 0, I 0, I 0], I 2]) (by kernel_rfl) (.inl (by first | (have hk : chkI l e insert = 1 := chk_1 (by simp [*]); rw [applyRow_ne hk (by decide), hk]; done) | (have hk : chkI l e insert = 2 := chk_2 (by assumption) (by assumption) (by assumption) (by omega); rw [applyRow_ne hk (by decide), hk]; done) | (have hk : chkI l e insert = 5 := chk_5 (by assumption) (by assumption) (by assumption) (by omega) (by omega); rw [applyRow_ne hk (by decide), hk]; done) | (have hk : chkI l e insert = 0 := chk_0 (by assumption) (by assumption) (by assumption) (by omega) (by omega); rw [applyRow_eq hk, hk]; simp [applyL, applyT, *]; done) | (exfalso; omega))) rfl (fun _ => (by simp [tagged, taggedL]))
      ·by_cases h6 : e.Kind = 3
       ·by_cases h7 : e.From = e.To
        ·refine aw_reg [(4, .call [(true, I e.From), (true, I 0), (true, I e.To)] true (Bv true)), (12, .dec false), (17, .dec true), (23, .dec false)] [2, 3, 4, 6, 48] [3, 4, 6] [Sv insert, .ref 3 0, .ref 4 0, .ref 6 0, Bv false] [some (bxCellRow l), some (bxEdit e), some (.box [Sv (⟨#[]⟩ : ByteArray), I 0, I 0, I 0])] [Con Tryd.prog 20 [I e.From, I 0, I e.To] true (Bv true) ∧ ((I e.From : AV) = I e.From) ∧ ((I 0 : AV) = I 0) ∧ ((I e.To : AV) = I e.To) ∧ True, ¬ ((l.Text.size : Int) < e.To), e.Kind = 3, ¬ (e.From ≠ e.To)] (by kernel_rfl) hB ⟨⟨(con_bool h4 (within_ok e.From 0 e.To)), rfl, rfl, rfl, trivial⟩, h5, h6, (fun hq => hq h7), trivial⟩ ?_
         refine ae_then ?_
         refine aw_false rfl ?_
         refine aw_skip ?_
         refine ae_then ?_
         refine aw_seq ?_
         refine aw_seq ?_
         by_cases h8 : e.Kind = 1
         ·refine aw_reg [(2, .dec true)] [2, 3, 4, 6, 52] [3, 4, 6] [Sv insert, .ref 3 0, .ref 4 0, .ref 6 0, Bv true] [some (bxCellRow l), some (bxEdit e), some (.box [Sv (⟨#[]⟩ : ByteArray), I 0, I 0, I 0])] [e.Kind = 1] (by kernel_rfl) hB ⟨h8, trivial⟩ ?_
          refine ae_then ?_
          refine aw_true rfl ?_
          refine aw_reg [] [2, 3, 4, 6] [3, 4, 6] [Sv (⟨#[]⟩ : ByteArray), .ref 3 0, .ref 4 0, .ref 6 0] [some (bxCellRow l), some (bxEdit e), some (.box [Sv (⟨#[]⟩ : ByteArray), I 0, I 0, I 0])] [] (by kernel_rfl) hB trivial ?_
          refine ae_then ?_
          refine aw_seq ?_
          refine aw_seq ?_
          by_cases h9 : 60 < (((l.Text.size : Int) + ((⟨#[]⟩ : ByteArray).size : Int)) - (e.To - e.From))
          ·refine aw_reg [(12, .dec true)] [2, 3, 4, 6, 65] [3, 4, 6] [Sv (⟨#[]⟩ : ByteArray), .ref 3 0, .ref 4 0, .ref 6 0, Bv true] [some (bxCellRow l), some (bxEdit e), some (.box [Sv (⟨#[]⟩ : ByteArray), I 0, I 0, I 0])] [inR .i64 ((l.Text.size : Int) + ((⟨#[]⟩ : ByteArray).size : Int)), inR .i64 (e.To - e.From), inR .i64 (((l.Text.size : Int) + ((⟨#[]⟩ : ByteArray).size : Int)) - (e.To - e.From)), 60 < (((l.Text.size : Int) + ((⟨#[]⟩ : ByteArray).size : Int)) - (e.To - e.From))] (by kernel_rfl) hB ⟨(inR_i64 (by omega) (by omega)), (inR_i64 (by omega) (by omega)), (inR_i64 (by omega) (by omega)), h9, trivial⟩ ?_
           refine ae_then ?_
           refine aw_true rfl ?_
           refine aw_seq ?_
           refine aw_reg [] [6, 7] [6] [.ref 6 0, I 5] [some (.box [Sv (⟨#[]⟩ : ByteArray), I 0, I 0, I 0])] [] (by kernel_rfl) hB trivial ?_
           refine ae_then ?_
           refine aw_ret ?_
           refine ae_ret_then ?_
           refine ae_ret hB (.tup [.agg [Sv (⟨#[]⟩ : ByteArray), I 0, I 0, I 0], I 5]) (by kernel_rfl) (.inl (by first | (have hk : chkI l e insert = 1 := chk_1 (by simp [*]); rw [applyRow_ne hk (by decide), hk]; done) | (have hk : chkI l e insert = 2 := chk_2 (by assumption) (by assumption) (by assumption) (by omega); rw [applyRow_ne hk (by decide), hk]; done) | (have hk : chkI l e insert = 5 := chk_5 (by assumption) (by assumption) (by assumption) (by omega) (by omega); rw [applyRow_ne hk (by decide), hk]; done) | (have hk : chkI l e insert = 0 := chk_0 (by assumption) (by assumption) (by assumption) (by omega) (by omega); rw [applyRow_eq hk, hk]; simp [applyL, applyT, *]; done) | (exfalso; omega))) rfl (fun _ => (by simp [tagged, taggedL]))
          ·refine aw_reg [(12, .dec false)] [2, 3, 4, 6, 65] [3, 4, 6] [Sv (⟨#[]⟩ : ByteArray), .ref 3 0, .ref 4 0, .ref 6 0, Bv false] [some (bxCellRow l), some (bxEdit e), some (.box [Sv (⟨#[]⟩ : ByteArray), I 0, I 0, I 0])] [inR .i64 ((l.Text.size : Int) + ((⟨#[]⟩ : ByteArray).size : Int)), inR .i64 (e.To - e.From), inR .i64 (((l.Text.size : Int) + ((⟨#[]⟩ : ByteArray).size : Int)) - (e.To - e.From)), ¬ (60 < (((l.Text.size : Int) + ((⟨#[]⟩ : ByteArray).size : Int)) - (e.To - e.From)))] (by kernel_rfl) hB ⟨(inR_i64 (by omega) (by omega)), (inR_i64 (by omega) (by omega)), (inR_i64 (by omega) (by omega)), h9, trivial⟩ ?_
           refine ae_then ?_
           refine aw_false rfl ?_
           refine aw_skip ?_
           refine ae_then ?_
           refine aw_seq ?_
           refine aw_reg [] [3, 6] [3, 6] [.ref 3 0, .ref 6 0] [some (.box [Sv (((l.Text.extract 0 e.From.toNat) ++ (⟨#[]⟩ : ByteArray)) ++ (l.Text.extract e.To.toNat (l.Text.size : Int).toNat)), I l.X, I l.Y, I l.Cell]), some (.box [Sv (⟨#[]⟩ : ByteArray), I 0, I 0, I 0])] [(0 : Int) ≤ 0 ∧ (0 : Int) ≤ e.From ∧ e.From ≤ (l.Text.size : Int), (l.Text.extract 0 e.From.toNat).size + (⟨#[]⟩ : ByteArray).size ≤ 9223372036854775807, (0 : Int) ≤ e.To ∧ e.To ≤ (l.Text.size : Int) ∧ (l.Text.size : Int) ≤ (l.Text.size : Int), ((l.Text.extract 0 e.From.toNat) ++ (⟨#[]⟩ : ByteArray)).size + (l.Text.extract e.To.toNat (l.Text.size : Int).toNat).size ≤ 9223372036854775807] (by kernel_rfl) hB ⟨⟨(by omega), (by omega), (by omega)⟩, (by first | omega | (simp only [ByteArray.size_append, ba_ext, ba_nil]; omega)), ⟨(by omega), (by omega), (by omega)⟩, (by first | omega | (simp only [ByteArray.size_append, ba_ext, ba_nil]; omega)), trivial⟩ ?_
           refine ae_then ?_
           refine aw_seq ?_
           refine aw_reg [] [6, 7] [6] [.ref 6 0, I 0] [some (.box [Sv (((l.Text.extract 0 e.From.toNat) ++ (⟨#[]⟩ : ByteArray)) ++ (l.Text.extract e.To.toNat (l.Text.size : Int).toNat)), I l.X, I l.Y, I l.Cell])] [] (by kernel_rfl) hB trivial ?_
           refine ae_then ?_
           refine aw_ret ?_
           refine ae_ret hB (.tup [.agg [Sv (((l.Text.extract 0 e.From.toNat) ++ (⟨#[]⟩ : ByteArray)) ++ (l.Text.extract e.To.toNat (l.Text.size : Int).toNat)), I l.X, I l.Y, I l.Cell], I 0]) (by kernel_rfl) (.inl (by first | (have hk : chkI l e insert = 1 := chk_1 (by simp [*]); rw [applyRow_ne hk (by decide), hk]; done) | (have hk : chkI l e insert = 2 := chk_2 (by assumption) (by assumption) (by assumption) (by omega); rw [applyRow_ne hk (by decide), hk]; done) | (have hk : chkI l e insert = 5 := chk_5 (by assumption) (by assumption) (by assumption) (by omega) (by omega); rw [applyRow_ne hk (by decide), hk]; done) | (have hk : chkI l e insert = 0 := chk_0 (by assumption) (by assumption) (by assumption) (by omega) (by omega); rw [applyRow_eq hk, hk]; simp [applyL, applyT, *]; done) | (exfalso; omega))) rfl (fun _ => (by simp [tagged, taggedL]))
         ·refine aw_reg [(2, .dec false)] [2, 3, 4, 6, 52] [3, 4, 6] [Sv insert, .ref 3 0, .ref 4 0, .ref 6 0, Bv false] [some (bxCellRow l), some (bxEdit e), some (.box [Sv (⟨#[]⟩ : ByteArray), I 0, I 0, I 0])] [¬ (e.Kind = 1)] (by kernel_rfl) hB ⟨h8, trivial⟩ ?_
          refine ae_then ?_
          refine aw_false rfl ?_
          refine aw_skip ?_
          refine ae_then ?_
          refine aw_seq ?_
          refine aw_seq ?_
          by_cases h10 : 60 < (((l.Text.size : Int) + (insert.size : Int)) - (e.To - e.From))
          ·refine aw_reg [(12, .dec true)] [2, 3, 4, 6, 65] [3, 4, 6] [Sv insert, .ref 3 0, .ref 4 0, .ref 6 0, Bv true] [some (bxCellRow l), some (bxEdit e), some (.box [Sv (⟨#[]⟩ : ByteArray), I 0, I 0, I 0])] [inR .i64 ((l.Text.size : Int) + (insert.size : Int)), inR .i64 (e.To - e.From), inR .i64 (((l.Text.size : Int) + (insert.size : Int)) - (e.To - e.From)), 60 < (((l.Text.size : Int) + (insert.size : Int)) - (e.To - e.From))] (by kernel_rfl) hB ⟨(inR_i64 (by omega) (by omega)), (inR_i64 (by omega) (by omega)), (inR_i64 (by omega) (by omega)), h10, trivial⟩ ?_
           refine ae_then ?_
           refine aw_true rfl ?_
           refine aw_seq ?_
           refine aw_reg [] [6, 7] [6] [.ref 6 0, I 5] [some (.box [Sv (⟨#[]⟩ : ByteArray), I 0, I 0, I 0])] [] (by kernel_rfl) hB trivial ?_
           refine ae_then ?_
           refine aw_ret ?_
           refine ae_ret_then ?_
           refine ae_ret hB (.tup [.agg [Sv (⟨#[]⟩ : ByteArray), I 0, I 0, I 0], I 5]) (by kernel_rfl) (.inl (by first | (have hk : chkI l e insert = 1 := chk_1 (by simp [*]); rw [applyRow_ne hk (by decide), hk]; done) | (have hk : chkI l e insert = 2 := chk_2 (by assumption) (by assumption) (by assumption) (by omega); rw [applyRow_ne hk (by decide), hk]; done) | (have hk : chkI l e insert = 5 := chk_5 (by assumption) (by assumption) (by assumption) (by omega) (by omega); rw [applyRow_ne hk (by decide), hk]; done) | (have hk : chkI l e insert = 0 := chk_0 (by assumption) (by assumption) (by assumption) (by omega) (by omega); rw [applyRow_eq hk, hk]; simp [applyL, applyT, *]; done) | (exfalso; omega))) rfl (fun _ => (by simp [tagged, taggedL]))
          ·refine aw_reg [(12, .dec false)] [2, 3, 4, 6, 65] [3, 4, 6] [Sv insert, .ref 3 0, .ref 4 0, .ref 6 0, Bv false] [some (bxCellRow l), some (bxEdit e), some (.box [Sv (⟨#[]⟩ : ByteArray), I 0, I 0, I 0])] [inR .i64 ((l.Text.size : Int) + (insert.size : Int)), inR .i64 (e.To - e.From), inR .i64 (((l.Text.size : Int) + (insert.size : Int)) - (e.To - e.From)), ¬ (60 < (((l.Text.size : Int) + (insert.size : Int)) - (e.To - e.From)))] (by kernel_rfl) hB ⟨(inR_i64 (by omega) (by omega)), (inR_i64 (by omega) (by omega)), (inR_i64 (by omega) (by omega)), h10, trivial⟩ ?_
           refine ae_then ?_
           refine aw_false rfl ?_
           refine aw_skip ?_
           refine ae_then ?_
           refine aw_seq ?_
           refine aw_reg [] [3, 6] [3, 6] [.ref 3 0, .ref 6 0] [some (.box [Sv (((l.Text.extract 0 e.From.toNat) ++ insert) ++ (l.Text.extract e.To.toNat (l.Text.size : Int).toNat)), I l.X, I l.Y, I l.Cell]), some (.box [Sv (⟨#[]⟩ : ByteArray), I 0, I 0, I 0])] [(0 : Int) ≤ 0 ∧ (0 : Int) ≤ e.From ∧ e.From ≤ (l.Text.size : Int), (l.Text.extract 0 e.From.toNat).size + insert.size ≤ 9223372036854775807, (0 : Int) ≤ e.To ∧ e.To ≤ (l.Text.size : Int) ∧ (l.Text.size : Int) ≤ (l.Text.size : Int), ((l.Text.extract 0 e.From.toNat) ++ insert).size + (l.Text.extract e.To.toNat (l.Text.size : Int).toNat).size ≤ 9223372036854775807] (by kernel_rfl) hB ⟨⟨(by omega), (by omega), (by omega)⟩, (by first | omega | (simp only [ByteArray.size_append, ba_ext, ba_nil]; omega)), ⟨(by omega), (by omega), (by omega)⟩, (by first | omega | (simp only [ByteArray.size_append, ba_ext, ba_nil]; omega)), trivial⟩ ?_
           refine ae_then ?_
           refine aw_seq ?_
           refine aw_reg [] [6, 7] [6] [.ref 6 0, I 0] [some (.box [Sv (((l.Text.extract 0 e.From.toNat) ++ insert) ++ (l.Text.extract e.To.toNat (l.Text.size : Int).toNat)), I l.X, I l.Y, I l.Cell])] [] (by kernel_rfl) hB trivial ?_
           refine ae_then ?_
           refine aw_ret ?_
           refine ae_ret hB (.tup [.agg [Sv (((l.Text.extract 0 e.From.toNat) ++ insert) ++ (l.Text.extract e.To.toNat (l.Text.size : Int).toNat)), I l.X, I l.Y, I l.Cell], I 0]) (by kernel_rfl) (.inl (by first | (have hk : chkI l e insert = 1 := chk_1 (by simp [*]); rw [applyRow_ne hk (by decide), hk]; done) | (have hk : chkI l e insert = 2 := chk_2 (by assumption) (by assumption) (by assumption) (by omega); rw [applyRow_ne hk (by decide), hk]; done) | (have hk : chkI l e insert = 5 := chk_5 (by assumption) (by assumption) (by assumption) (by omega) (by omega); rw [applyRow_ne hk (by decide), hk]; done) | (have hk : chkI l e insert = 0 := chk_0 (by assumption) (by assumption) (by assumption) (by omega) (by omega); rw [applyRow_eq hk, hk]; simp [applyL, applyT, *]; done) | (exfalso; omega))) rfl (fun _ => (by simp [tagged, taggedL]))
        ·refine aw_reg [(4, .call [(true, I e.From), (true, I 0), (true, I e.To)] true (Bv true)), (12, .dec false), (17, .dec true), (23, .dec true)] [2, 3, 4, 6, 48] [3, 4, 6] [Sv insert, .ref 3 0, .ref 4 0, .ref 6 0, Bv true] [some (bxCellRow l), some (bxEdit e), some (.box [Sv (⟨#[]⟩ : ByteArray), I 0, I 0, I 0])] [Con Tryd.prog 20 [I e.From, I 0, I e.To] true (Bv true) ∧ ((I e.From : AV) = I e.From) ∧ ((I 0 : AV) = I 0) ∧ ((I e.To : AV) = I e.To) ∧ True, ¬ ((l.Text.size : Int) < e.To), e.Kind = 3, e.From ≠ e.To] (by kernel_rfl) hB ⟨⟨(con_bool h4 (within_ok e.From 0 e.To)), rfl, rfl, rfl, trivial⟩, h5, h6, h7, trivial⟩ ?_
         refine ae_then ?_
         refine aw_true rfl ?_
         refine aw_seq ?_
         refine aw_reg [] [6, 7] [6] [.ref 6 0, I 2] [some (.box [Sv (⟨#[]⟩ : ByteArray), I 0, I 0, I 0])] [] (by kernel_rfl) hB trivial ?_
         refine ae_then ?_
         refine aw_ret ?_
         refine ae_ret_then ?_
         refine ae_ret hB (.tup [.agg [Sv (⟨#[]⟩ : ByteArray), I 0, I 0, I 0], I 2]) (by kernel_rfl) (.inl (by first | (have hk : chkI l e insert = 1 := chk_1 (by simp [*]); rw [applyRow_ne hk (by decide), hk]; done) | (have hk : chkI l e insert = 2 := chk_2 (by assumption) (by assumption) (by assumption) (by omega); rw [applyRow_ne hk (by decide), hk]; done) | (have hk : chkI l e insert = 5 := chk_5 (by assumption) (by assumption) (by assumption) (by omega) (by omega); rw [applyRow_ne hk (by decide), hk]; done) | (have hk : chkI l e insert = 0 := chk_0 (by assumption) (by assumption) (by assumption) (by omega) (by omega); rw [applyRow_eq hk, hk]; simp [applyL, applyT, *]; done) | (exfalso; omega))) rfl (fun _ => (by simp [tagged, taggedL]))
       ·refine aw_reg [(4, .call [(true, I e.From), (true, I 0), (true, I e.To)] true (Bv true)), (12, .dec false), (17, .dec false)] [2, 3, 4, 6, 48] [3, 4, 6] [Sv insert, .ref 3 0, .ref 4 0, .ref 6 0, Bv false] [some (bxCellRow l), some (bxEdit e), some (.box [Sv (⟨#[]⟩ : ByteArray), I 0, I 0, I 0])] [Con Tryd.prog 20 [I e.From, I 0, I e.To] true (Bv true) ∧ ((I e.From : AV) = I e.From) ∧ ((I 0 : AV) = I 0) ∧ ((I e.To : AV) = I e.To) ∧ True, ¬ ((l.Text.size : Int) < e.To), ¬ (e.Kind = 3)] (by kernel_rfl) hB ⟨⟨(con_bool h4 (within_ok e.From 0 e.To)), rfl, rfl, rfl, trivial⟩, h5, h6, trivial⟩ ?_
        refine ae_then ?_
        refine aw_false rfl ?_
        refine aw_skip ?_
        refine ae_then ?_
        refine aw_seq ?_
        refine aw_seq ?_
        by_cases h11 : e.Kind = 1
        ·refine aw_reg [(2, .dec true)] [2, 3, 4, 6, 52] [3, 4, 6] [Sv insert, .ref 3 0, .ref 4 0, .ref 6 0, Bv true] [some (bxCellRow l), some (bxEdit e), some (.box [Sv (⟨#[]⟩ : ByteArray), I 0, I 0, I 0])] [e.Kind = 1] (by kernel_rfl) hB ⟨h11, trivial⟩ ?_
         refine ae_then ?_
         refine aw_true rfl ?_
         refine aw_reg [] [2, 3, 4, 6] [3, 4, 6] [Sv (⟨#[]⟩ : ByteArray), .ref 3 0, .ref 4 0, .ref 6 0] [some (bxCellRow l), some (bxEdit e), some (.box [Sv (⟨#[]⟩ : ByteArray), I 0, I 0, I 0])] [] (by kernel_rfl) hB trivial ?_
         refine ae_then ?_
         refine aw_seq ?_
         refine aw_seq ?_
         by_cases h12 : 60 < (((l.Text.size : Int) + ((⟨#[]⟩ : ByteArray).size : Int)) - (e.To - e.From))
         ·refine aw_reg [(12, .dec true)] [2, 3, 4, 6, 65] [3, 4, 6] [Sv (⟨#[]⟩ : ByteArray), .ref 3 0, .ref 4 0, .ref 6 0, Bv true] [some (bxCellRow l), some (bxEdit e), some (.box [Sv (⟨#[]⟩ : ByteArray), I 0, I 0, I 0])] [inR .i64 ((l.Text.size : Int) + ((⟨#[]⟩ : ByteArray).size : Int)), inR .i64 (e.To - e.From), inR .i64 (((l.Text.size : Int) + ((⟨#[]⟩ : ByteArray).size : Int)) - (e.To - e.From)), 60 < (((l.Text.size : Int) + ((⟨#[]⟩ : ByteArray).size : Int)) - (e.To - e.From))] (by kernel_rfl) hB ⟨(inR_i64 (by omega) (by omega)), (inR_i64 (by omega) (by omega)), (inR_i64 (by omega) (by omega)), h12, trivial⟩ ?_
          refine ae_then ?_
          refine aw_true rfl ?_
          refine aw_seq ?_
          refine aw_reg [] [6, 7] [6] [.ref 6 0, I 5] [some (.box [Sv (⟨#[]⟩ : ByteArray), I 0, I 0, I 0])] [] (by kernel_rfl) hB trivial ?_
          refine ae_then ?_
          refine aw_ret ?_
          refine ae_ret_then ?_
          refine ae_ret hB (.tup [.agg [Sv (⟨#[]⟩ : ByteArray), I 0, I 0, I 0], I 5]) (by kernel_rfl) (.inl (by first | (have hk : chkI l e insert = 1 := chk_1 (by simp [*]); rw [applyRow_ne hk (by decide), hk]; done) | (have hk : chkI l e insert = 2 := chk_2 (by assumption) (by assumption) (by assumption) (by omega); rw [applyRow_ne hk (by decide), hk]; done) | (have hk : chkI l e insert = 5 := chk_5 (by assumption) (by assumption) (by assumption) (by omega) (by omega); rw [applyRow_ne hk (by decide), hk]; done) | (have hk : chkI l e insert = 0 := chk_0 (by assumption) (by assumption) (by assumption) (by omega) (by omega); rw [applyRow_eq hk, hk]; simp [applyL, applyT, *]; done) | (exfalso; omega))) rfl (fun _ => (by simp [tagged, taggedL]))
         ·refine aw_reg [(12, .dec false)] [2, 3, 4, 6, 65] [3, 4, 6] [Sv (⟨#[]⟩ : ByteArray), .ref 3 0, .ref 4 0, .ref 6 0, Bv false] [some (bxCellRow l), some (bxEdit e), some (.box [Sv (⟨#[]⟩ : ByteArray), I 0, I 0, I 0])] [inR .i64 ((l.Text.size : Int) + ((⟨#[]⟩ : ByteArray).size : Int)), inR .i64 (e.To - e.From), inR .i64 (((l.Text.size : Int) + ((⟨#[]⟩ : ByteArray).size : Int)) - (e.To - e.From)), ¬ (60 < (((l.Text.size : Int) + ((⟨#[]⟩ : ByteArray).size : Int)) - (e.To - e.From)))] (by kernel_rfl) hB ⟨(inR_i64 (by omega) (by omega)), (inR_i64 (by omega) (by omega)), (inR_i64 (by omega) (by omega)), h12, trivial⟩ ?_
          refine ae_then ?_
          refine aw_false rfl ?_
          refine aw_skip ?_
          refine ae_then ?_
          refine aw_seq ?_
          refine aw_reg [] [3, 6] [3, 6] [.ref 3 0, .ref 6 0] [some (.box [Sv (((l.Text.extract 0 e.From.toNat) ++ (⟨#[]⟩ : ByteArray)) ++ (l.Text.extract e.To.toNat (l.Text.size : Int).toNat)), I l.X, I l.Y, I l.Cell]), some (.box [Sv (⟨#[]⟩ : ByteArray), I 0, I 0, I 0])] [(0 : Int) ≤ 0 ∧ (0 : Int) ≤ e.From ∧ e.From ≤ (l.Text.size : Int), (l.Text.extract 0 e.From.toNat).size + (⟨#[]⟩ : ByteArray).size ≤ 9223372036854775807, (0 : Int) ≤ e.To ∧ e.To ≤ (l.Text.size : Int) ∧ (l.Text.size : Int) ≤ (l.Text.size : Int), ((l.Text.extract 0 e.From.toNat) ++ (⟨#[]⟩ : ByteArray)).size + (l.Text.extract e.To.toNat (l.Text.size : Int).toNat).size ≤ 9223372036854775807] (by kernel_rfl) hB ⟨⟨(by omega), (by omega), (by omega)⟩, (by first | omega | (simp only [ByteArray.size_append, ba_ext, ba_nil]; omega)), ⟨(by omega), (by omega), (by omega)⟩, (by first | omega | (simp only [ByteArray.size_append, ba_ext, ba_nil]; omega)), trivial⟩ ?_
          refine ae_then ?_
          refine aw_seq ?_
          refine aw_reg [] [6, 7] [6] [.ref 6 0, I 0] [some (.box [Sv (((l.Text.extract 0 e.From.toNat) ++ (⟨#[]⟩ : ByteArray)) ++ (l.Text.extract e.To.toNat (l.Text.size : Int).toNat)), I l.X, I l.Y, I l.Cell])] [] (by kernel_rfl) hB trivial ?_
          refine ae_then ?_
          refine aw_ret ?_
          refine ae_ret hB (.tup [.agg [Sv (((l.Text.extract 0 e.From.toNat) ++ (⟨#[]⟩ : ByteArray)) ++ (l.Text.extract e.To.toNat (l.Text.size : Int).toNat)), I l.X, I l.Y, I l.Cell], I 0]) (by kernel_rfl) (.inl (by first | (have hk : chkI l e insert = 1 := chk_1 (by simp [*]); rw [applyRow_ne hk (by decide), hk]; done) | (have hk : chkI l e insert = 2 := chk_2 (by assumption) (by assumption) (by assumption) (by omega); rw [applyRow_ne hk (by decide), hk]; done) | (have hk : chkI l e insert = 5 := chk_5 (by assumption) (by assumption) (by assumption) (by omega) (by omega); rw [applyRow_ne hk (by decide), hk]; done) | (have hk : chkI l e insert = 0 := chk_0 (by assumption) (by assumption) (by assumption) (by omega) (by omega); rw [applyRow_eq hk, hk]; simp [applyL, applyT, *]; done) | (exfalso; omega))) rfl (fun _ => (by simp [tagged, taggedL]))
        ·refine aw_reg [(2, .dec false)] [2, 3, 4, 6, 52] [3, 4, 6] [Sv insert, .ref 3 0, .ref 4 0, .ref 6 0, Bv false] [some (bxCellRow l), some (bxEdit e), some (.box [Sv (⟨#[]⟩ : ByteArray), I 0, I 0, I 0])] [¬ (e.Kind = 1)] (by kernel_rfl) hB ⟨h11, trivial⟩ ?_
         refine ae_then ?_
         refine aw_false rfl ?_
         refine aw_skip ?_
         refine ae_then ?_
         refine aw_seq ?_
         refine aw_seq ?_
         by_cases h13 : 60 < (((l.Text.size : Int) + (insert.size : Int)) - (e.To - e.From))
         ·refine aw_reg [(12, .dec true)] [2, 3, 4, 6, 65] [3, 4, 6] [Sv insert, .ref 3 0, .ref 4 0, .ref 6 0, Bv true] [some (bxCellRow l), some (bxEdit e), some (.box [Sv (⟨#[]⟩ : ByteArray), I 0, I 0, I 0])] [inR .i64 ((l.Text.size : Int) + (insert.size : Int)), inR .i64 (e.To - e.From), inR .i64 (((l.Text.size : Int) + (insert.size : Int)) - (e.To - e.From)), 60 < (((l.Text.size : Int) + (insert.size : Int)) - (e.To - e.From))] (by kernel_rfl) hB ⟨(inR_i64 (by omega) (by omega)), (inR_i64 (by omega) (by omega)), (inR_i64 (by omega) (by omega)), h13, trivial⟩ ?_
          refine ae_then ?_
          refine aw_true rfl ?_
          refine aw_seq ?_
          refine aw_reg [] [6, 7] [6] [.ref 6 0, I 5] [some (.box [Sv (⟨#[]⟩ : ByteArray), I 0, I 0, I 0])] [] (by kernel_rfl) hB trivial ?_
          refine ae_then ?_
          refine aw_ret ?_
          refine ae_ret_then ?_
          refine ae_ret hB (.tup [.agg [Sv (⟨#[]⟩ : ByteArray), I 0, I 0, I 0], I 5]) (by kernel_rfl) (.inl (by first | (have hk : chkI l e insert = 1 := chk_1 (by simp [*]); rw [applyRow_ne hk (by decide), hk]; done) | (have hk : chkI l e insert = 2 := chk_2 (by assumption) (by assumption) (by assumption) (by omega); rw [applyRow_ne hk (by decide), hk]; done) | (have hk : chkI l e insert = 5 := chk_5 (by assumption) (by assumption) (by assumption) (by omega) (by omega); rw [applyRow_ne hk (by decide), hk]; done) | (have hk : chkI l e insert = 0 := chk_0 (by assumption) (by assumption) (by assumption) (by omega) (by omega); rw [applyRow_eq hk, hk]; simp [applyL, applyT, *]; done) | (exfalso; omega))) rfl (fun _ => (by simp [tagged, taggedL]))
         ·refine aw_reg [(12, .dec false)] [2, 3, 4, 6, 65] [3, 4, 6] [Sv insert, .ref 3 0, .ref 4 0, .ref 6 0, Bv false] [some (bxCellRow l), some (bxEdit e), some (.box [Sv (⟨#[]⟩ : ByteArray), I 0, I 0, I 0])] [inR .i64 ((l.Text.size : Int) + (insert.size : Int)), inR .i64 (e.To - e.From), inR .i64 (((l.Text.size : Int) + (insert.size : Int)) - (e.To - e.From)), ¬ (60 < (((l.Text.size : Int) + (insert.size : Int)) - (e.To - e.From)))] (by kernel_rfl) hB ⟨(inR_i64 (by omega) (by omega)), (inR_i64 (by omega) (by omega)), (inR_i64 (by omega) (by omega)), h13, trivial⟩ ?_
          refine ae_then ?_
          refine aw_false rfl ?_
          refine aw_skip ?_
          refine ae_then ?_
          refine aw_seq ?_
          refine aw_reg [] [3, 6] [3, 6] [.ref 3 0, .ref 6 0] [some (.box [Sv (((l.Text.extract 0 e.From.toNat) ++ insert) ++ (l.Text.extract e.To.toNat (l.Text.size : Int).toNat)), I l.X, I l.Y, I l.Cell]), some (.box [Sv (⟨#[]⟩ : ByteArray), I 0, I 0, I 0])] [(0 : Int) ≤ 0 ∧ (0 : Int) ≤ e.From ∧ e.From ≤ (l.Text.size : Int), (l.Text.extract 0 e.From.toNat).size + insert.size ≤ 9223372036854775807, (0 : Int) ≤ e.To ∧ e.To ≤ (l.Text.size : Int) ∧ (l.Text.size : Int) ≤ (l.Text.size : Int), ((l.Text.extract 0 e.From.toNat) ++ insert).size + (l.Text.extract e.To.toNat (l.Text.size : Int).toNat).size ≤ 9223372036854775807] (by kernel_rfl) hB ⟨⟨(by omega), (by omega), (by omega)⟩, (by first | omega | (simp only [ByteArray.size_append, ba_ext, ba_nil]; omega)), ⟨(by omega), (by omega), (by omega)⟩, (by first | omega | (simp only [ByteArray.size_append, ba_ext, ba_nil]; omega)), trivial⟩ ?_
          refine ae_then ?_
          refine aw_seq ?_
          refine aw_reg [] [6, 7] [6] [.ref 6 0, I 0] [some (.box [Sv (((l.Text.extract 0 e.From.toNat) ++ insert) ++ (l.Text.extract e.To.toNat (l.Text.size : Int).toNat)), I l.X, I l.Y, I l.Cell])] [] (by kernel_rfl) hB trivial ?_
          refine ae_then ?_
          refine aw_ret ?_
          refine ae_ret hB (.tup [.agg [Sv (((l.Text.extract 0 e.From.toNat) ++ insert) ++ (l.Text.extract e.To.toNat (l.Text.size : Int).toNat)), I l.X, I l.Y, I l.Cell], I 0]) (by kernel_rfl) (.inl (by first | (have hk : chkI l e insert = 1 := chk_1 (by simp [*]); rw [applyRow_ne hk (by decide), hk]; done) | (have hk : chkI l e insert = 2 := chk_2 (by assumption) (by assumption) (by assumption) (by omega); rw [applyRow_ne hk (by decide), hk]; done) | (have hk : chkI l e insert = 5 := chk_5 (by assumption) (by assumption) (by assumption) (by omega) (by omega); rw [applyRow_ne hk (by decide), hk]; done) | (have hk : chkI l e insert = 0 := chk_0 (by assumption) (by assumption) (by assumption) (by omega) (by omega); rw [applyRow_eq hk, hk]; simp [applyL, applyT, *]; done) | (exfalso; omega))) rfl (fun _ => (by simp [tagged, taggedL]))
     ·have hinh4 := (not_congr inB_iff).1 (Bool.eq_false_iff.1 h4)
      refine aw_reg [(4, .call [(true, I e.From), (true, I 0), (true, I e.To)] true (Bv false))] [2, 3, 4, 6, 48] [3, 4, 6] [Sv insert, .ref 3 0, .ref 4 0, .ref 6 0, Bv true] [some (bxCellRow l), some (bxEdit e), some (.box [Sv (⟨#[]⟩ : ByteArray), I 0, I 0, I 0])] [Con Tryd.prog 20 [I e.From, I 0, I e.To] true (Bv false) ∧ ((I e.From : AV) = I e.From) ∧ ((I 0 : AV) = I 0) ∧ ((I e.To : AV) = I e.To) ∧ True] (by kernel_rfl) hB ⟨⟨(con_bool h4 (within_ok e.From 0 e.To)), rfl, rfl, rfl, trivial⟩, trivial⟩ ?_
      refine ae_then ?_
      refine aw_true rfl ?_
      refine aw_seq ?_
      refine aw_reg [] [6, 7] [6] [.ref 6 0, I 2] [some (.box [Sv (⟨#[]⟩ : ByteArray), I 0, I 0, I 0])] [] (by kernel_rfl) hB trivial ?_
      refine ae_then ?_
      refine aw_ret ?_
      refine ae_ret_then ?_
      refine ae_ret hB (.tup [.agg [Sv (⟨#[]⟩ : ByteArray), I 0, I 0, I 0], I 2]) (by kernel_rfl) (.inl (by first | (have hk : chkI l e insert = 1 := chk_1 (by simp [*]); rw [applyRow_ne hk (by decide), hk]; done) | (have hk : chkI l e insert = 2 := chk_2 (by assumption) (by assumption) (by assumption) (by omega); rw [applyRow_ne hk (by decide), hk]; done) | (have hk : chkI l e insert = 5 := chk_5 (by assumption) (by assumption) (by assumption) (by omega) (by omega); rw [applyRow_ne hk (by decide), hk]; done) | (have hk : chkI l e insert = 0 := chk_0 (by assumption) (by assumption) (by assumption) (by omega) (by omega); rw [applyRow_eq hk, hk]; simp [applyL, applyT, *]; done) | (exfalso; omega))) rfl (fun _ => (by simp [tagged, taggedL]))
    ·have hinh3 := (not_congr inB_iff).1 (Bool.eq_false_iff.1 h3)
     refine aw_reg [(1, .call [(true, agCellRow l)] true (Bv true)), (5, .call [(true, Sv insert)] true (Bv true)), (11, .call [(true, I e.Kind), (true, I 1), (true, I 3)] true (Bv false))] [2, 3, 4, 6, 21] [3, 4, 6] [Sv insert, .ref 3 0, .ref 4 0, .ref 6 0, Bv true] [some (bxCellRow l), some (bxEdit e), some (.box [Sv (⟨#[]⟩ : ByteArray), I 0, I 0, I 0])] [Con Tryd.prog 35 [agCellRow l] true (Bv true) ∧ ((agCellRow l : AV) = agCellRow l) ∧ True, Con Tryd.prog 36 [Sv insert] true (Bv true) ∧ ((Sv insert : AV) = Sv insert) ∧ True, Con Tryd.prog 20 [I e.Kind, I 1, I 3] true (Bv false) ∧ ((I e.Kind : AV) = I e.Kind) ∧ ((I 1 : AV) = I 1) ∧ ((I 3 : AV) = I 3) ∧ True] (by kernel_rfl) hB ⟨⟨(con_bool h1 (ValidCellRow_ok l okl)), rfl, trivial⟩, ⟨(con_bool h2 (areCells_ok insert (by omega))), rfl, trivial⟩, ⟨(con_bool h3 (within_ok e.Kind 1 3)), rfl, rfl, rfl, trivial⟩, trivial⟩ ?_
     refine ae_then ?_
     refine aw_true rfl ?_
     refine aw_seq ?_
     refine aw_reg [] [6, 7] [6] [.ref 6 0, I 1] [some (.box [Sv (⟨#[]⟩ : ByteArray), I 0, I 0, I 0])] [] (by kernel_rfl) hB trivial ?_
     refine ae_then ?_
     refine aw_ret ?_
     refine ae_ret_then ?_
     refine ae_ret hB (.tup [.agg [Sv (⟨#[]⟩ : ByteArray), I 0, I 0, I 0], I 1]) (by kernel_rfl) (.inl (by first | (have hk : chkI l e insert = 1 := chk_1 (by simp [*]); rw [applyRow_ne hk (by decide), hk]; done) | (have hk : chkI l e insert = 2 := chk_2 (by assumption) (by assumption) (by assumption) (by omega); rw [applyRow_ne hk (by decide), hk]; done) | (have hk : chkI l e insert = 5 := chk_5 (by assumption) (by assumption) (by assumption) (by omega) (by omega); rw [applyRow_ne hk (by decide), hk]; done) | (have hk : chkI l e insert = 0 := chk_0 (by assumption) (by assumption) (by assumption) (by omega) (by omega); rw [applyRow_eq hk, hk]; simp [applyL, applyT, *]; done) | (exfalso; omega))) rfl (fun _ => (by simp [tagged, taggedL]))
   ·refine aw_reg [(1, .call [(true, agCellRow l)] true (Bv true)), (5, .call [(true, Sv insert)] true (Bv false))] [2, 3, 4, 6, 21] [3, 4, 6] [Sv insert, .ref 3 0, .ref 4 0, .ref 6 0, Bv true] [some (bxCellRow l), some (bxEdit e), some (.box [Sv (⟨#[]⟩ : ByteArray), I 0, I 0, I 0])] [Con Tryd.prog 35 [agCellRow l] true (Bv true) ∧ ((agCellRow l : AV) = agCellRow l) ∧ True, Con Tryd.prog 36 [Sv insert] true (Bv false) ∧ ((Sv insert : AV) = Sv insert) ∧ True] (by kernel_rfl) hB ⟨⟨(con_bool h1 (ValidCellRow_ok l okl)), rfl, trivial⟩, ⟨(con_bool h2 (areCells_ok insert (by omega))), rfl, trivial⟩, trivial⟩ ?_
    refine ae_then ?_
    refine aw_true rfl ?_
    refine aw_seq ?_
    refine aw_reg [] [6, 7] [6] [.ref 6 0, I 1] [some (.box [Sv (⟨#[]⟩ : ByteArray), I 0, I 0, I 0])] [] (by kernel_rfl) hB trivial ?_
    refine ae_then ?_
    refine aw_ret ?_
    refine ae_ret_then ?_
    refine ae_ret hB (.tup [.agg [Sv (⟨#[]⟩ : ByteArray), I 0, I 0, I 0], I 1]) (by kernel_rfl) (.inl (by first | (have hk : chkI l e insert = 1 := chk_1 (by simp [*]); rw [applyRow_ne hk (by decide), hk]; done) | (have hk : chkI l e insert = 2 := chk_2 (by assumption) (by assumption) (by assumption) (by omega); rw [applyRow_ne hk (by decide), hk]; done) | (have hk : chkI l e insert = 5 := chk_5 (by assumption) (by assumption) (by assumption) (by omega) (by omega); rw [applyRow_ne hk (by decide), hk]; done) | (have hk : chkI l e insert = 0 := chk_0 (by assumption) (by assumption) (by assumption) (by omega) (by omega); rw [applyRow_eq hk, hk]; simp [applyL, applyT, *]; done) | (exfalso; omega))) rfl (fun _ => (by simp [tagged, taggedL]))
  ·refine aw_reg [(1, .call [(true, agCellRow l)] true (Bv false))] [2, 3, 4, 6, 21] [3, 4, 6] [Sv insert, .ref 3 0, .ref 4 0, .ref 6 0, Bv true] [some (bxCellRow l), some (bxEdit e), some (.box [Sv (⟨#[]⟩ : ByteArray), I 0, I 0, I 0])] [Con Tryd.prog 35 [agCellRow l] true (Bv false) ∧ ((agCellRow l : AV) = agCellRow l) ∧ True] (by kernel_rfl) hB ⟨⟨(con_bool h1 (ValidCellRow_ok l okl)), rfl, trivial⟩, trivial⟩ ?_
   refine ae_then ?_
   refine aw_true rfl ?_
   refine aw_seq ?_
   refine aw_reg [] [6, 7] [6] [.ref 6 0, I 1] [some (.box [Sv (⟨#[]⟩ : ByteArray), I 0, I 0, I 0])] [] (by kernel_rfl) hB trivial ?_
   refine ae_then ?_
   refine aw_ret ?_
   refine ae_ret_then ?_
   refine ae_ret hB (.tup [.agg [Sv (⟨#[]⟩ : ByteArray), I 0, I 0, I 0], I 1]) (by kernel_rfl) (.inl (by first | (have hk : chkI l e insert = 1 := chk_1 (by simp [*]); rw [applyRow_ne hk (by decide), hk]; done) | (have hk : chkI l e insert = 2 := chk_2 (by assumption) (by assumption) (by assumption) (by omega); rw [applyRow_ne hk (by decide), hk]; done) | (have hk : chkI l e insert = 5 := chk_5 (by assumption) (by assumption) (by assumption) (by omega) (by omega); rw [applyRow_ne hk (by decide), hk]; done) | (have hk : chkI l e insert = 0 := chk_0 (by assumption) (by assumption) (by assumption) (by omega) (by omega); rw [applyRow_eq hk, hk]; simp [applyL, applyT, *]; done) | (exfalso; omega))) rfl (fun _ => (by simp [tagged, taggedL]))


theorem app_list (a b : ByteArray) : (a ++ b).data.toList = a.data.toList ++ b.data.toList := by simp [ByteArray.data_append]
theorem ext_mem {s : ByteArray} {a b : Nat} {x : UInt8} (h : x ∈ (s.extract a b).data.toList) : x ∈ s.data.toList := by
  rw [ByteArray.data_extract, Array.toList_extract] at h
  simp only [List.extract_eq_take_drop] at h
  exact List.mem_of_mem_drop (List.mem_of_mem_take h)
theorem applyL_ok {l : CellRow} {e : Edit} {ins : ByteArray} (h : chkI l e ins = 0) : okRow (applyL l e ins) = true := by
  have hck := chk_ok h
  have hr := okRow_iff.1 hck.1
  refine okRow_iff.2 ⟨?_, ?_, hr.2.2⟩
  · rw [lettersB_iff]
    intro x hx
    have h1 := lettersB_iff.1 hr.1
    have h2 := lettersB_iff.1 hck.2.1
    simp only [applyL, applyT, app_list, List.mem_append] at hx
    rcases hx with (hx | hx) | hx
    · exact h1 x (ext_mem hx)
    · split at hx
      · simp at hx
      · exact h2 x hx
    · exact h1 x (ext_mem hx)
  · simp only [applyL, applyT, ByteArray.size_append, ba_ext]
    split
    · simp only [ba_nil]; omega
    · omega

/-- A line behind the first k strokes, and how many edits there were; none where an edit does not fit. -/
def runG (l0 : CellRow) (xs : List Stroke) (ins : ByteArray) : Nat → Option (CellRow × Int)
  | 0 => some (l0, 0)
  | k + 1 => match runG l0 xs ins k with
    | none => none
    | some (l, n) => if (editOfR l (at_ xs k)).2 = 0 then (if chkI l (editOfR l (at_ xs k)).1 ins = 0 then some (applyL l (editOfR l (at_ xs k)).1 ins, n + 1) else none) else some (l, n)
section
variable {l0 l : CellRow} {xs : List Stroke} {ins : ByteArray} {i n : Int}
theorem runG_skip (h0 : 0 ≤ i) (h : runG l0 xs ins i.toNat = some (l, n)) (h2 : ¬ (editOfR l (at_ xs i.toNat)).2 = 0) : runG l0 xs ins (i + 1).toNat = some (l, n) := by
  have e : (i + 1).toNat = i.toNat + 1 := by omega
  rw [e, runG, h]; simp only [if_neg h2]
theorem runG_step (h0 : 0 ≤ i) (h : runG l0 xs ins i.toNat = some (l, n)) (h2 : (editOfR l (at_ xs i.toNat)).2 = 0) (h3 : chkI l (editOfR l (at_ xs i.toNat)).1 ins = 0) : runG l0 xs ins (i + 1).toNat = some (applyL l (editOfR l (at_ xs i.toNat)).1 ins, n + 1) := by
  have e : (i + 1).toNat = i.toNat + 1 := by omega
  rw [e, runG, h]; simp only [if_pos h2, if_pos h3]
theorem runG_full (h0 : 0 ≤ i) (h : runG l0 xs ins i.toNat = some (l, n)) (h2 : (editOfR l (at_ xs i.toNat)).2 = 0) (h3 : ¬ chkI l (editOfR l (at_ xs i.toNat)).1 ins = 0) : runG l0 xs ins (i.toNat + 1) = none := by
  rw [runG, h]; simp only [if_pos h2, if_neg h3]
theorem runG_none {k : Nat} (h : runG l0 xs ins k = none) : ∀ {m : Nat}, k ≤ m → runG l0 xs ins m = none := by
  intro m hm
  induction m with
  | zero => have : k = 0 := by omega
            subst this; exact h
  | succ m ih =>
    by_cases e : k = m + 1
    · rw [← e]; exact h
    · rw [runG, ih (by omega)]
end
def runOut : Option (CellRow × Int) → CellRow × Int × Int
  | some (l, n) => (l, n, 0)
  | none => (⟨⟨#[]⟩, 0, 0, 0⟩, 0, 5)
def runR (l : CellRow) (xs : List Stroke) (ins : ByteArray) : CellRow × Int × Int :=
  if okRow l = true ∧ lettersB ins = true ∧ allN xs.length (fun j => okStroke' (at_ xs j)) = true then runOut (runG l xs ins xs.length) else (⟨⟨#[]⟩, 0, 0, 0⟩, 0, 1)
theorem runR_no {l : CellRow} {xs : List Stroke} {ins : ByteArray} (h : ¬ (okRow l = true ∧ lettersB ins = true ∧ allN xs.length (fun j => okStroke' (at_ xs j)) = true)) : runR l xs ins = (⟨⟨#[]⟩, 0, 0, 0⟩, 0, 1) := if_neg h
theorem runR_yes {l : CellRow} {xs : List Stroke} {ins : ByteArray} (h1 : okRow l = true) (h2 : lettersB ins = true) (h3 : allN xs.length (fun j => okStroke' (at_ xs j)) = true) : runR l xs ins = runOut (runG l xs ins xs.length) := if_pos ⟨h1, h2, h3⟩

-- impl.RunGestures
theorem implRunGestures_ok (l : CellRow) (strokes : List Stroke) (insert : ByteArray) (okl : l.Text.size ≤ 9223372036854775807) (oki : insert.size ≤ 1048576) : Con Tryd.prog 16 [agCellRow l, slStroke false strokes, Sv insert] true (.tup [agCellRow ((runR l strokes insert).1), I ((runR l strokes insert).2.1), I ((runR l strokes insert).2.2)]) := by
  refine fn_ok (fn := Tryd.f16) (nt := 67) Tryd.func16 rfl rfl rfl rfl (by simp [taggedL, tagged, tagStroke]) fun B hB => ?_
  refine aw_lens (x := slStroke false strokes) 1 rfl (fun len_strokes => ?_)
  simp [LenOK, LenL, cPoint, cStroke, fPoint, fStroke, slPoint, slStroke] at len_strokes
  refine aw_seq ?_
  refine aw_reg [(0, .new 3), (1, .new 6)] [1, 2, 3, 6] [3, 6] [slStroke false strokes, Sv insert, .ref 3 0, .ref 6 0] [some (bxCellRow l), some (.box [Sv (⟨#[]⟩ : ByteArray), I 0, I 0, I 0])] [] (by kernel_rfl) hB trivial ?_
  refine ae_then ?_
  refine aw_seq ?_
  refine aw_seq ?_
  rcases Bool.eq_false_or_eq_true (okRow l) with h1 | h1
  ·rcases Bool.eq_false_or_eq_true (lettersB insert) with h2 | h2
   ·refine aw_reg [(1, .call [(true, agCellRow l)] true (Bv true)), (5, .call [(true, Sv insert)] true (Bv true))] [1, 2, 3, 6, 24] [3, 6] [slStroke false strokes, Sv insert, .ref 3 0, .ref 6 0, Bv false] [some (bxCellRow l), some (.box [Sv (⟨#[]⟩ : ByteArray), I 0, I 0, I 0])] [Con Tryd.prog 35 [agCellRow l] true (Bv true) ∧ ((agCellRow l : AV) = agCellRow l) ∧ True, Con Tryd.prog 36 [Sv insert] true (Bv true) ∧ ((Sv insert : AV) = Sv insert) ∧ True] (by kernel_rfl) hB ⟨⟨(con_bool h1 (ValidCellRow_ok l okl)), rfl, trivial⟩, ⟨(con_bool h2 (areCells_ok insert (by omega))), rfl, trivial⟩, trivial⟩ ?_
    refine ae_then ?_
    refine aw_false rfl ?_
    refine aw_skip ?_
    refine ae_then ?_
    refine aw_seq ?_
    refine aw_seq ?_
    refine aw_reg [] [1, 2, 3, 6, 26, 27, 28] [3, 6] [slStroke false strokes, Sv insert, .ref 3 0, .ref 6 0, slStroke false strokes, I (strokes.length : Int), I 0] [some (bxCellRow l), some (.box [Sv (⟨#[]⟩ : ByteArray), I 0, I 0, I 0])] [] (by kernel_rfl) hB trivial ?_
    refine ae_then ?_
    refine aw_block ?_
    refine aw_loop (fun gn gσ => ∃ (t28 : Int) (b6_0 : ByteArray) (b6_1 : Int) (b6_2 : Int) (b6_3 : Int), gn = ((strokes.length : Int) - t28).toNat ∧ (0 ≤ t28 ∧ t28 ≤ (strokes.length : Int)) ∧ (∀ j : Nat, (j : Int) < t28 → okStroke' (at_ strokes j) = true) ∧ gσ = mkS [(1, slStroke false strokes), (2, Sv insert), (3, .ref 3 0), (6, .ref 6 0), (26, slStroke false strokes), (27, I (strokes.length : Int)), (28, I t28)] [(3, bxCellRow l), (6, .box [Sv b6_0, I b6_1, I b6_2, I b6_3])]) (((strokes.length : Int) - 0).toNat) ⟨0, (⟨#[]⟩ : ByteArray), 0, 0, 0, rfl, (by omega), (by intro j hj; omega), rfl⟩ (fun gn gσ hI => ?_)
    obtain ⟨t28, b6_0, b6_1, b6_2, b6_3, rfl, hi0, hall0, rfl⟩ := hI
    refine aw_seq ?_
    by_cases h3 : t28 < (strokes.length : Int)
    ·have hi : t28.toNat < strokes.length := by omega
     refine aw_reg [(0, .dec true)] [1, 2, 3, 6, 26, 27, 28, 29] [3, 6] [slStroke false strokes, Sv insert, .ref 3 0, .ref 6 0, slStroke false strokes, I (strokes.length : Int), I t28, Bv true] [some (bxCellRow l), some (.box [Sv b6_0, I b6_1, I b6_2, I b6_3])] [t28 < (strokes.length : Int)] (by kernel_rfl) hB ⟨h3, trivial⟩ ?_
     refine ae_then ?_
     refine aw_seq ?_
     refine aw_true rfl ?_
     refine aw_skip ?_
     refine ae_then ?_
     refine aw_seq ?_
     refine aw_block ?_
     refine aw_seq ?_
     refine aw_reg [(2, .new 10)] [1, 2, 3, 6, 10, 26, 27, 28] [3, 6, 10] [slStroke false strokes, Sv insert, .ref 3 0, .ref 6 0, .ref 10 0, slStroke false strokes, I (strokes.length : Int), I t28] [some (bxCellRow l), some (.box [Sv b6_0, I b6_1, I b6_2, I b6_3]), some (.box [slPoint false ((at_ strokes t28.toNat).Points)])] [(0 : Int) ≤ t28 ∧ t28 < (strokes.length : Int)] (by kernel_rfl) hB ⟨⟨(by omega), (by omega)⟩, trivial⟩ ?_
     refine ae_then ?_
     refine aw_seq ?_
     rcases Bool.eq_false_or_eq_true (okStroke' (at_ strokes t28.toNat)) with h4 | h4
     ·refine aw_reg [(1, .call [(true, .agg [slPoint false ((at_ strokes t28.toNat).Points)])] true (Bv true))] [1, 2, 3, 6, 26, 27, 28, 34] [3, 6] [slStroke false strokes, Sv insert, .ref 3 0, .ref 6 0, slStroke false strokes, I (strokes.length : Int), I t28, Bv false] [some (bxCellRow l), some (.box [Sv b6_0, I b6_1, I b6_2, I b6_3])] [Con Tryd.prog 37 [.agg [slPoint false ((at_ strokes t28.toNat).Points)]] true (Bv true) ∧ ((.agg [slPoint false ((at_ strokes t28.toNat).Points)] : AV) = .agg [slPoint false ((at_ strokes t28.toNat).Points)]) ∧ True] (by kernel_rfl) hB ⟨⟨(con_bool h4 (ValidStroke_ok (at_ strokes t28.toNat))), rfl, trivial⟩, trivial⟩ ?_
      refine ae_then ?_
      refine aw_false rfl ?_
      refine aw_skip ?_
      refine ae_block 1 ?_
      refine ae_then ?_
      refine aw_reg [] [1, 2, 3, 6, 26, 27, 28] [3, 6] [slStroke false strokes, Sv insert, .ref 3 0, .ref 6 0, slStroke false strokes, I (strokes.length : Int), I (t28 + 1)] [some (bxCellRow l), some (.box [Sv b6_0, I b6_1, I b6_2, I b6_3])] [inR .i64 (t28 + 1)] (by kernel_rfl) hB ⟨(inR_i64 (by omega) (by omega)), trivial⟩ ?_
      exact ae_again _ (by omega) ⟨(t28 + 1), b6_0, b6_1, b6_2, b6_3, rfl, (by omega), (by intro j hj; by_cases ej : j = t28.toNat; (subst ej; first | assumption | exact hok); exact hall0 j (by omega)), rfl⟩
     ·have hall : allN strokes.length (fun j => okStroke' (at_ strokes j)) = false := allN_not hi h4
      refine aw_reg [(1, .call [(true, .agg [slPoint false ((at_ strokes t28.toNat).Points)])] true (Bv false))] [1, 2, 3, 6, 26, 27, 28, 34] [3, 6] [slStroke false strokes, Sv insert, .ref 3 0, .ref 6 0, slStroke false strokes, I (strokes.length : Int), I t28, Bv true] [some (bxCellRow l), some (.box [Sv b6_0, I b6_1, I b6_2, I b6_3])] [Con Tryd.prog 37 [.agg [slPoint false ((at_ strokes t28.toNat).Points)]] true (Bv false) ∧ ((.agg [slPoint false ((at_ strokes t28.toNat).Points)] : AV) = .agg [slPoint false ((at_ strokes t28.toNat).Points)]) ∧ True] (by kernel_rfl) hB ⟨⟨(con_bool h4 (ValidStroke_ok (at_ strokes t28.toNat))), rfl, trivial⟩, trivial⟩ ?_
      refine ae_then ?_
      refine aw_true rfl ?_
      refine aw_seq ?_
      refine aw_reg [] [6, 7, 8] [6] [.ref 6 0, I 0, I 1] [some (.box [Sv (⟨#[]⟩ : ByteArray), I 0, I 0, I 0])] [] (by kernel_rfl) hB trivial ?_
      refine ae_then ?_
      refine aw_ret ?_
      refine ae_ret_block (ae_ret_then (ae_ret_then (ae_ret_block (ae_ret_then ?_))))
      refine ae_ret hB (.tup [.agg [Sv (⟨#[]⟩ : ByteArray), I 0, I 0, I 0], I 0, I 1]) (by kernel_rfl) (.inl (by first | (rw [runR_yes (by assumption) (by assumption) (by assumption), hg1]; rfl) | (rw [runR_yes (by assumption) (by assumption) (by assumption), hfull]; rfl) | (rw [runR_no (by simp [*])]; done))) rfl (fun _ => (by simp [tagged, taggedL]))
    ·have hall : allN strokes.length (fun j => okStroke' (at_ strokes j)) = true := allN_at (fun j hj => hall0 j (by omega))
     refine aw_reg [(0, .dec false)] [1, 2, 3, 6, 26, 27, 28, 29] [3, 6] [slStroke false strokes, Sv insert, .ref 3 0, .ref 6 0, slStroke false strokes, I (strokes.length : Int), I t28, Bv false] [some (bxCellRow l), some (.box [Sv b6_0, I b6_1, I b6_2, I b6_3])] [¬ (t28 < (strokes.length : Int))] (by kernel_rfl) hB ⟨h3, trivial⟩ ?_
     refine ae_then ?_
     refine aw_seq ?_
     refine aw_false rfl ?_
     refine aw_exit ?_
     refine ae_exit_then ?_
     refine ae_exit_then ?_
     refine ae_exit_same ?_
     refine ae_then ?_
     refine aw_seq ?_
     refine aw_reg [] [1, 2, 3, 6, 11] [3, 6] [slStroke false strokes, Sv insert, .ref 3 0, .ref 6 0, I 0] [some (bxCellRow l), some (.box [Sv b6_0, I b6_1, I b6_2, I b6_3])] [] (by kernel_rfl) hB trivial ?_
     refine ae_then ?_
     refine aw_seq ?_
     refine aw_seq ?_
     refine aw_reg [] [2, 3, 6, 11, 37, 38, 39] [3, 6] [Sv insert, .ref 3 0, .ref 6 0, I 0, slStroke false strokes, I (strokes.length : Int), I 0] [some (bxCellRow l), some (.box [Sv b6_0, I b6_1, I b6_2, I b6_3])] [] (by kernel_rfl) hB trivial ?_
     refine ae_then ?_
     refine aw_block ?_
     refine aw_loop (fun gn gσ => ∃ (count : Int) (t39 : Int) (b6_0' : ByteArray) (b6_1' : Int) (b6_2' : Int) (b6_3' : Int) (tx_ : ByteArray) (lx_ : Int) (ly_ : Int) (lc_ : Int), gn = ((strokes.length : Int) - t39).toNat ∧ (0 ≤ t39 ∧ t39 ≤ (strokes.length : Int)) ∧ (runG l strokes insert t39.toNat = some ((CellRow.mk tx_ lx_ ly_ lc_), count)) ∧ (okRow (CellRow.mk tx_ lx_ ly_ lc_) = true) ∧ (0 ≤ count ∧ count ≤ t39) ∧ gσ = mkS [(2, Sv insert), (3, .ref 3 0), (6, .ref 6 0), (11, I count), (37, slStroke false strokes), (38, I (strokes.length : Int)), (39, I t39)] [(3, .box [Sv tx_, I lx_, I ly_, I lc_]), (6, .box [Sv b6_0', I b6_1', I b6_2', I b6_3'])]) (((strokes.length : Int) - 0).toNat) ⟨0, 0, b6_0, b6_1, b6_2, b6_3, l.Text, l.X, l.Y, l.Cell, rfl, (by omega), (by rfl), (by assumption), (by omega), rfl⟩ (fun gn gσ hI => ?_)
     obtain ⟨count, t39, b6_0', b6_1', b6_2', b6_3', tx_, lx_, ly_, lc_, rfl, hj0, hg1, hg2, hg3, rfl⟩ := hI
     refine aw_seq ?_
     by_cases h5 : t39 < (strokes.length : Int)
     ·have hi : t39.toNat < strokes.length := by omega
      have hst := allN_get hall (k := t39.toNat) hi
      have hrr := okRow_iff.1 hg2
      have hrs : tx_.size ≤ 9223372036854775807 := by have := hrr.2.1; simp only at this; omega
      have hee := editOf_eq (s := at_ strokes t39.toNat) hg2 hst
      refine aw_reg [(0, .dec true)] [2, 3, 6, 11, 37, 38, 39, 40] [3, 6] [Sv insert, .ref 3 0, .ref 6 0, I count, slStroke false strokes, I (strokes.length : Int), I t39, Bv true] [some (.box [Sv tx_, I lx_, I ly_, I lc_]), some (.box [Sv b6_0', I b6_1', I b6_2', I b6_3'])] [t39 < (strokes.length : Int)] (by kernel_rfl) hB ⟨h5, trivial⟩ ?_
      refine ae_then ?_
      refine aw_seq ?_
      refine aw_true rfl ?_
      refine aw_skip ?_
      refine ae_then ?_
      refine aw_seq ?_
      refine aw_block ?_
      refine aw_seq ?_
      refine aw_reg [(2, .new 13)] [2, 3, 6, 11, 13, 37, 38, 39] [3, 6, 13] [Sv insert, .ref 3 0, .ref 6 0, I count, .ref 13 0, slStroke false strokes, I (strokes.length : Int), I t39] [some (.box [Sv tx_, I lx_, I ly_, I lc_]), some (.box [Sv b6_0', I b6_1', I b6_2', I b6_3']), some (.box [slPoint false ((at_ strokes t39.toNat).Points)])] [(0 : Int) ≤ t39 ∧ t39 < (strokes.length : Int)] (by kernel_rfl) hB ⟨⟨(by omega), (by omega)⟩, trivial⟩ ?_
      refine ae_then ?_
      refine aw_seq ?_
      refine aw_reg [(2, .call [(true, .agg [Sv tx_, I lx_, I ly_, I lc_]), (true, .agg [slPoint false ((at_ strokes t39.toNat).Points)])] true (.tup [agEdit ((editOfR (CellRow.mk tx_ lx_ ly_ lc_) (at_ strokes t39.toNat)).1), I ((editOfR (CellRow.mk tx_ lx_ ly_ lc_) (at_ strokes t39.toNat)).2)])), (6, .new 14)] [2, 3, 6, 11, 14, 15, 37, 38, 39] [3, 6, 14] [Sv insert, .ref 3 0, .ref 6 0, I count, .ref 14 0, I ((editOfR (CellRow.mk tx_ lx_ ly_ lc_) (at_ strokes t39.toNat)).2), slStroke false strokes, I (strokes.length : Int), I t39] [some (.box [Sv tx_, I lx_, I ly_, I lc_]), some (.box [Sv b6_0', I b6_1', I b6_2', I b6_3']), some (bxEdit ((editOfR (CellRow.mk tx_ lx_ ly_ lc_) (at_ strokes t39.toNat)).1))] [Con Tryd.prog 38 [.agg [Sv tx_, I lx_, I ly_, I lc_], .agg [slPoint false ((at_ strokes t39.toNat).Points)]] true (.tup [agEdit ((editOfR (CellRow.mk tx_ lx_ ly_ lc_) (at_ strokes t39.toNat)).1), I ((editOfR (CellRow.mk tx_ lx_ ly_ lc_) (at_ strokes t39.toNat)).2)]) ∧ ((.agg [Sv tx_, I lx_, I ly_, I lc_] : AV) = .agg [Sv tx_, I lx_, I ly_, I lc_]) ∧ ((.agg [slPoint false ((at_ strokes t39.toNat).Points)] : AV) = .agg [slPoint false ((at_ strokes t39.toNat).Points)]) ∧ True] (by kernel_rfl) hB ⟨⟨(implEditOf_ok (CellRow.mk tx_ lx_ ly_ lc_) (at_ strokes t39.toNat) hrs), rfl, rfl, trivial⟩, trivial⟩ ?_
      refine ae_then ?_
      refine aw_seq ?_
      refine aw_seq ?_
      by_cases h6 : ((editOfR (CellRow.mk tx_ lx_ ly_ lc_) (at_ strokes t39.toNat)).2) = 0
      ·refine aw_reg [(1, .dec false)] [2, 3, 6, 11, 14, 37, 38, 39, 50] [3, 6, 14] [Sv insert, .ref 3 0, .ref 6 0, I count, .ref 14 0, slStroke false strokes, I (strokes.length : Int), I t39, Bv false] [some (.box [Sv tx_, I lx_, I ly_, I lc_]), some (.box [Sv b6_0', I b6_1', I b6_2', I b6_3']), some (bxEdit ((editOfR (CellRow.mk tx_ lx_ ly_ lc_) (at_ strokes t39.toNat)).1))] [¬ (((editOfR (CellRow.mk tx_ lx_ ly_ lc_) (at_ strokes t39.toNat)).2) ≠ 0)] (by kernel_rfl) hB ⟨(fun hq => hq h6), trivial⟩ ?_
       refine ae_then ?_
       refine aw_false rfl ?_
       refine aw_skip ?_
       refine ae_then ?_
       refine aw_seq ?_
       refine aw_reg [(3, .call [(true, .agg [Sv tx_, I lx_, I ly_, I lc_]), (true, agEdit ((editOfR (CellRow.mk tx_ lx_ ly_ lc_) (at_ strokes t39.toNat)).1)), (true, Sv insert)] true (.tup [agCellRow (applyRow (CellRow.mk tx_ lx_ ly_ lc_) ((editOfR (CellRow.mk tx_ lx_ ly_ lc_) (at_ strokes t39.toNat)).1) insert), I (chkI (CellRow.mk tx_ lx_ ly_ lc_) ((editOfR (CellRow.mk tx_ lx_ ly_ lc_) (at_ strokes t39.toNat)).1) insert)])), (7, .new 16)] [2, 3, 6, 11, 15, 16, 37, 38, 39] [3, 6, 16] [Sv insert, .ref 3 0, .ref 6 0, I count, I (chkI (CellRow.mk tx_ lx_ ly_ lc_) ((editOfR (CellRow.mk tx_ lx_ ly_ lc_) (at_ strokes t39.toNat)).1) insert), .ref 16 0, slStroke false strokes, I (strokes.length : Int), I t39] [some (.box [Sv tx_, I lx_, I ly_, I lc_]), some (.box [Sv b6_0', I b6_1', I b6_2', I b6_3']), some (bxCellRow (applyRow (CellRow.mk tx_ lx_ ly_ lc_) ((editOfR (CellRow.mk tx_ lx_ ly_ lc_) (at_ strokes t39.toNat)).1) insert))] [Con Tryd.prog 39 [.agg [Sv tx_, I lx_, I ly_, I lc_], agEdit ((editOfR (CellRow.mk tx_ lx_ ly_ lc_) (at_ strokes t39.toNat)).1), Sv insert] true (.tup [agCellRow (applyRow (CellRow.mk tx_ lx_ ly_ lc_) ((editOfR (CellRow.mk tx_ lx_ ly_ lc_) (at_ strokes t39.toNat)).1) insert), I (chkI (CellRow.mk tx_ lx_ ly_ lc_) ((editOfR (CellRow.mk tx_ lx_ ly_ lc_) (at_ strokes t39.toNat)).1) insert)]) ∧ ((.agg [Sv tx_, I lx_, I ly_, I lc_] : AV) = .agg [Sv tx_, I lx_, I ly_, I lc_]) ∧ ((agEdit ((editOfR (CellRow.mk tx_ lx_ ly_ lc_) (at_ strokes t39.toNat)).1) : AV) = agEdit ((editOfR (CellRow.mk tx_ lx_ ly_ lc_) (at_ strokes t39.toNat)).1)) ∧ ((Sv insert : AV) = Sv insert) ∧ True] (by kernel_rfl) hB ⟨⟨(implApplyEdit_ok (CellRow.mk tx_ lx_ ly_ lc_) ((editOfR (CellRow.mk tx_ lx_ ly_ lc_) (at_ strokes t39.toNat)).1) insert hrs oki), rfl, rfl, rfl, trivial⟩, trivial⟩ ?_
       refine ae_then ?_
       refine aw_seq ?_
       refine aw_seq ?_
       by_cases h7 : (chkI (CellRow.mk tx_ lx_ ly_ lc_) ((editOfR (CellRow.mk tx_ lx_ ly_ lc_) (at_ strokes t39.toNat)).1) insert) = 0
       ·have qh7 := h7
        have hstep := runG_step hj0.1 hg1 (by assumption) qh7
        have hokn := applyL_ok qh7
        rw [← applyRow_eq qh7] at hstep hokn
        refine aw_reg [(1, .dec false)] [2, 3, 6, 11, 16, 37, 38, 39, 59] [3, 6, 16] [Sv insert, .ref 3 0, .ref 6 0, I count, .ref 16 0, slStroke false strokes, I (strokes.length : Int), I t39, Bv false] [some (.box [Sv tx_, I lx_, I ly_, I lc_]), some (.box [Sv b6_0', I b6_1', I b6_2', I b6_3']), some (bxCellRow (applyRow (CellRow.mk tx_ lx_ ly_ lc_) ((editOfR (CellRow.mk tx_ lx_ ly_ lc_) (at_ strokes t39.toNat)).1) insert))] [¬ ((chkI (CellRow.mk tx_ lx_ ly_ lc_) ((editOfR (CellRow.mk tx_ lx_ ly_ lc_) (at_ strokes t39.toNat)).1) insert) ≠ 0)] (by kernel_rfl) hB ⟨(fun hq => hq h7), trivial⟩ ?_
        refine ae_then ?_
        refine aw_false rfl ?_
        refine aw_skip ?_
        refine ae_then ?_
        refine aw_seq ?_
        refine aw_reg [] [2, 3, 6, 11, 37, 38, 39] [3, 6] [Sv insert, .ref 3 0, .ref 6 0, I count, slStroke false strokes, I (strokes.length : Int), I t39] [some (bxCellRow (applyRow (CellRow.mk tx_ lx_ ly_ lc_) ((editOfR (CellRow.mk tx_ lx_ ly_ lc_) (at_ strokes t39.toNat)).1) insert)), some (.box [Sv b6_0', I b6_1', I b6_2', I b6_3'])] [] (by kernel_rfl) hB trivial ?_
        refine ae_then ?_
        refine aw_reg [] [2, 3, 6, 11, 37, 38, 39] [3, 6] [Sv insert, .ref 3 0, .ref 6 0, I (count + 1), slStroke false strokes, I (strokes.length : Int), I t39] [some (bxCellRow (applyRow (CellRow.mk tx_ lx_ ly_ lc_) ((editOfR (CellRow.mk tx_ lx_ ly_ lc_) (at_ strokes t39.toNat)).1) insert)), some (.box [Sv b6_0', I b6_1', I b6_2', I b6_3'])] [inR .i64 (count + 1)] (by kernel_rfl) hB ⟨(inR_i64 (by omega) (by omega)), trivial⟩ ?_
        refine ae_block 3 ?_
        refine ae_then ?_
        refine aw_reg [] [2, 3, 6, 11, 37, 38, 39] [3, 6] [Sv insert, .ref 3 0, .ref 6 0, I (count + 1), slStroke false strokes, I (strokes.length : Int), I (t39 + 1)] [some (bxCellRow (applyRow (CellRow.mk tx_ lx_ ly_ lc_) ((editOfR (CellRow.mk tx_ lx_ ly_ lc_) (at_ strokes t39.toNat)).1) insert)), some (.box [Sv b6_0', I b6_1', I b6_2', I b6_3'])] [inR .i64 (t39 + 1)] (by kernel_rfl) hB ⟨(inR_i64 (by omega) (by omega)), trivial⟩ ?_
        refine ae_weak hB [] (T := [(2, Sv insert), (3, .ref 3 0), (6, .ref 6 0), (11, I (count + 1)), (37, slStroke false strokes), (38, I (strokes.length : Int)), (39, I (t39 + 1))]) (O := [(3, .box [Sv ((applyRow (CellRow.mk tx_ lx_ ly_ lc_) ((editOfR (CellRow.mk tx_ lx_ ly_ lc_) (at_ strokes t39.toNat)).1) insert).Text), I ((applyRow (CellRow.mk tx_ lx_ ly_ lc_) ((editOfR (CellRow.mk tx_ lx_ ly_ lc_) (at_ strokes t39.toNat)).1) insert).X), I ((applyRow (CellRow.mk tx_ lx_ ly_ lc_) ((editOfR (CellRow.mk tx_ lx_ ly_ lc_) (at_ strokes t39.toNat)).1) insert).Y), I ((applyRow (CellRow.mk tx_ lx_ ly_ lc_) ((editOfR (CellRow.mk tx_ lx_ ly_ lc_) (at_ strokes t39.toNat)).1) insert).Cell)]), (6, .box [Sv b6_0', I b6_1', I b6_2', I b6_3'])]) rfl (⟨.inl rfl, .inl rfl, .inl rfl, .inl rfl, .inl rfl, .inl rfl, .inl rfl, trivial⟩) (⟨.inr ⟨rfl, ⟨rfl, ⟨rfl, ⟨rfl, rfl⟩⟩⟩⟩, .inl rfl, trivial⟩) (ae_again _ (by omega) ⟨(count + 1), (t39 + 1), b6_0', b6_1', b6_2', b6_3', (applyRow (CellRow.mk tx_ lx_ ly_ lc_) ((editOfR (CellRow.mk tx_ lx_ ly_ lc_) (at_ strokes t39.toNat)).1) insert).Text, (applyRow (CellRow.mk tx_ lx_ ly_ lc_) ((editOfR (CellRow.mk tx_ lx_ ly_ lc_) (at_ strokes t39.toNat)).1) insert).X, (applyRow (CellRow.mk tx_ lx_ ly_ lc_) ((editOfR (CellRow.mk tx_ lx_ ly_ lc_) (at_ strokes t39.toNat)).1) insert).Y, (applyRow (CellRow.mk tx_ lx_ ly_ lc_) ((editOfR (CellRow.mk tx_ lx_ ly_ lc_) (at_ strokes t39.toNat)).1) insert).Cell, rfl, (by omega), (by first | exact runG_skip hj0.1 hg1 (by assumption) | exact hstep), (by first | exact hg2 | exact hokn), (by omega), rfl⟩)
       ·have qh7 := h7
        have hfull := runG_none (runG_full hj0.1 hg1 (by assumption) qh7) (m := strokes.length) (by omega)
        refine aw_reg [(1, .dec true)] [2, 3, 6, 11, 16, 37, 38, 39, 59] [3, 6, 16] [Sv insert, .ref 3 0, .ref 6 0, I count, .ref 16 0, slStroke false strokes, I (strokes.length : Int), I t39, Bv true] [some (.box [Sv tx_, I lx_, I ly_, I lc_]), some (.box [Sv b6_0', I b6_1', I b6_2', I b6_3']), some (bxCellRow (applyRow (CellRow.mk tx_ lx_ ly_ lc_) ((editOfR (CellRow.mk tx_ lx_ ly_ lc_) (at_ strokes t39.toNat)).1) insert))] [(chkI (CellRow.mk tx_ lx_ ly_ lc_) ((editOfR (CellRow.mk tx_ lx_ ly_ lc_) (at_ strokes t39.toNat)).1) insert) ≠ 0] (by kernel_rfl) hB ⟨h7, trivial⟩ ?_
        refine ae_then ?_
        refine aw_true rfl ?_
        refine aw_seq ?_
        refine aw_reg [] [6, 7, 8] [6] [.ref 6 0, I 0, I 5] [some (.box [Sv (⟨#[]⟩ : ByteArray), I 0, I 0, I 0])] [] (by kernel_rfl) hB trivial ?_
        refine ae_then ?_
        refine aw_ret ?_
        refine ae_ret_then (ae_ret_block (ae_ret_then (ae_ret_then (ae_ret_block (ae_ret_then ?_)))))
        refine ae_ret hB (.tup [.agg [Sv (⟨#[]⟩ : ByteArray), I 0, I 0, I 0], I 0, I 5]) (by kernel_rfl) (.inl (by first | (rw [runR_yes (by assumption) (by assumption) (by assumption), hg1]; rfl) | (rw [runR_yes (by assumption) (by assumption) (by assumption), hfull]; rfl) | (rw [runR_no (by simp [*])]; done))) rfl (fun _ => (by simp [tagged, taggedL]))
      ·refine aw_reg [(1, .dec true)] [2, 3, 6, 11, 14, 37, 38, 39, 50] [3, 6, 14] [Sv insert, .ref 3 0, .ref 6 0, I count, .ref 14 0, slStroke false strokes, I (strokes.length : Int), I t39, Bv true] [some (.box [Sv tx_, I lx_, I ly_, I lc_]), some (.box [Sv b6_0', I b6_1', I b6_2', I b6_3']), some (bxEdit ((editOfR (CellRow.mk tx_ lx_ ly_ lc_) (at_ strokes t39.toNat)).1))] [((editOfR (CellRow.mk tx_ lx_ ly_ lc_) (at_ strokes t39.toNat)).2) ≠ 0] (by kernel_rfl) hB ⟨h6, trivial⟩ ?_
       refine ae_then ?_
       refine aw_true rfl ?_
       refine aw_exit ?_
       refine ae_exit_then ?_
       refine ae_exit_same ?_
       refine ae_then ?_
       refine aw_reg [] [2, 3, 6, 11, 37, 38, 39] [3, 6] [Sv insert, .ref 3 0, .ref 6 0, I count, slStroke false strokes, I (strokes.length : Int), I (t39 + 1)] [some (.box [Sv tx_, I lx_, I ly_, I lc_]), some (.box [Sv b6_0', I b6_1', I b6_2', I b6_3'])] [inR .i64 (t39 + 1)] (by kernel_rfl) hB ⟨(inR_i64 (by omega) (by omega)), trivial⟩ ?_
       exact ae_again _ (by omega) ⟨count, (t39 + 1), b6_0', b6_1', b6_2', b6_3', tx_, lx_, ly_, lc_, rfl, (by omega), (by first | exact runG_skip hj0.1 hg1 (by assumption) | exact hstep), (by first | exact hg2 | exact hokn), (by omega), rfl⟩
     ·have hie : t39.toNat = strokes.length := by omega
      rw [hie] at hg1
      refine aw_reg [(0, .dec false)] [2, 3, 6, 11, 37, 38, 39, 40] [3, 6] [Sv insert, .ref 3 0, .ref 6 0, I count, slStroke false strokes, I (strokes.length : Int), I t39, Bv false] [some (.box [Sv tx_, I lx_, I ly_, I lc_]), some (.box [Sv b6_0', I b6_1', I b6_2', I b6_3'])] [¬ (t39 < (strokes.length : Int))] (by kernel_rfl) hB ⟨h5, trivial⟩ ?_
      refine ae_then ?_
      refine aw_seq ?_
      refine aw_false rfl ?_
      refine aw_exit ?_
      refine ae_exit_then ?_
      refine ae_exit_then ?_
      refine ae_exit_same ?_
      refine ae_then ?_
      refine aw_seq ?_
      refine aw_reg [] [6, 7, 8] [6] [.ref 6 0, I count, I 0] [some (.box [Sv tx_, I lx_, I ly_, I lc_])] [] (by kernel_rfl) hB trivial ?_
      refine ae_then ?_
      refine aw_ret ?_
      refine ae_ret hB (.tup [.agg [Sv tx_, I lx_, I ly_, I lc_], I count, I 0]) (by kernel_rfl) (.inl (by first | (rw [runR_yes (by assumption) (by assumption) (by assumption), hg1]; rfl) | (rw [runR_yes (by assumption) (by assumption) (by assumption), hfull]; rfl) | (rw [runR_no (by simp [*])]; done))) rfl (fun _ => (by simp [tagged, taggedL]))
   ·refine aw_reg [(1, .call [(true, agCellRow l)] true (Bv true)), (5, .call [(true, Sv insert)] true (Bv false))] [1, 2, 3, 6, 24] [3, 6] [slStroke false strokes, Sv insert, .ref 3 0, .ref 6 0, Bv true] [some (bxCellRow l), some (.box [Sv (⟨#[]⟩ : ByteArray), I 0, I 0, I 0])] [Con Tryd.prog 35 [agCellRow l] true (Bv true) ∧ ((agCellRow l : AV) = agCellRow l) ∧ True, Con Tryd.prog 36 [Sv insert] true (Bv false) ∧ ((Sv insert : AV) = Sv insert) ∧ True] (by kernel_rfl) hB ⟨⟨(con_bool h1 (ValidCellRow_ok l okl)), rfl, trivial⟩, ⟨(con_bool h2 (areCells_ok insert (by omega))), rfl, trivial⟩, trivial⟩ ?_
    refine ae_then ?_
    refine aw_true rfl ?_
    refine aw_seq ?_
    refine aw_reg [] [6, 7, 8] [6] [.ref 6 0, I 0, I 1] [some (.box [Sv (⟨#[]⟩ : ByteArray), I 0, I 0, I 0])] [] (by kernel_rfl) hB trivial ?_
    refine ae_then ?_
    refine aw_ret ?_
    refine ae_ret_then ?_
    refine ae_ret hB (.tup [.agg [Sv (⟨#[]⟩ : ByteArray), I 0, I 0, I 0], I 0, I 1]) (by kernel_rfl) (.inl (by first | (rw [runR_yes (by assumption) (by assumption) (by assumption), hg1]; rfl) | (rw [runR_yes (by assumption) (by assumption) (by assumption), hfull]; rfl) | (rw [runR_no (by simp [*])]; done))) rfl (fun _ => (by simp [tagged, taggedL]))
  ·refine aw_reg [(1, .call [(true, agCellRow l)] true (Bv false))] [1, 2, 3, 6, 24] [3, 6] [slStroke false strokes, Sv insert, .ref 3 0, .ref 6 0, Bv true] [some (bxCellRow l), some (.box [Sv (⟨#[]⟩ : ByteArray), I 0, I 0, I 0])] [Con Tryd.prog 35 [agCellRow l] true (Bv false) ∧ ((agCellRow l : AV) = agCellRow l) ∧ True] (by kernel_rfl) hB ⟨⟨(con_bool h1 (ValidCellRow_ok l okl)), rfl, trivial⟩, trivial⟩ ?_
   refine ae_then ?_
   refine aw_true rfl ?_
   refine aw_seq ?_
   refine aw_reg [] [6, 7, 8] [6] [.ref 6 0, I 0, I 1] [some (.box [Sv (⟨#[]⟩ : ByteArray), I 0, I 0, I 0])] [] (by kernel_rfl) hB trivial ?_
   refine ae_then ?_
   refine aw_ret ?_
   refine ae_ret_then ?_
   refine ae_ret hB (.tup [.agg [Sv (⟨#[]⟩ : ByteArray), I 0, I 0, I 0], I 0, I 1]) (by kernel_rfl) (.inl (by first | (rw [runR_yes (by assumption) (by assumption) (by assumption), hg1]; rfl) | (rw [runR_yes (by assumption) (by assumption) (by assumption), hfull]; rfl) | (rw [runR_no (by simp [*])]; done))) rfl (fun _ => (by simp [tagged, taggedL]))


-- spec.l01Small
theorem l01Small_ok (c : Int) : Con Tryd.prog 65 [.val (.int .u8 c)] true (Bv (inB c 97 122)) := by
  refine fn_ok (fn := Tryd.f65) (nt := 9) Tryd.func65 rfl rfl rfl rfl (by simp [taggedL, tagged]) fun B hB => ?_
  refine aw_seq ?_
  refine aw_reg [] [0] [] [.val (.int .u8 c)] [] [] (by kernel_rfl) hB trivial ?_
  refine ae_then ?_
  refine aw_seq ?_
  by_cases h1 : 97 ≤ c
  ·refine aw_reg [(1, .dec true)] [2] [] [Bv (decide (c ≤ 122))] [] [97 ≤ c] (by kernel_rfl) hB ⟨h1, trivial⟩ ?_
   refine ae_then ?_
   refine aw_ret ?_
   refine ae_ret hB (Bv (decide (c ≤ 122))) (by kernel_rfl) (.inl (by first | rfl | (refine congrArg Bv ?_; simp [inB, *]; done) | (refine congrArg Bv ?_; simp [inB, *]; omega) | (refine congrArg Bv ?_; simp_all [inB]; done) | (refine congrArg Bv ?_; simp_all [inB]; omega))) rfl (fun _ => trivial)
  ·refine aw_reg [(1, .dec false)] [2] [] [Bv false] [] [¬ (97 ≤ c)] (by kernel_rfl) hB ⟨h1, trivial⟩ ?_
   refine ae_then ?_
   refine aw_ret ?_
   refine ae_ret hB (Bv false) (by kernel_rfl) (.inl (by first | rfl | (refine congrArg Bv ?_; simp [inB, *]; done) | (refine congrArg Bv ?_; simp [inB, *]; omega) | (refine congrArg Bv ?_; simp_all [inB]; done) | (refine congrArg Bv ?_; simp_all [inB]; omega))) rfl (fun _ => trivial)


-- spec.l01Digit
theorem l01Digit_ok (c : Int) : Con Tryd.prog 66 [.val (.int .u8 c)] true (Bv (inB c 48 57)) := by
  refine fn_ok (fn := Tryd.f66) (nt := 9) Tryd.func66 rfl rfl rfl rfl (by simp [taggedL, tagged]) fun B hB => ?_
  refine aw_seq ?_
  refine aw_reg [] [0] [] [.val (.int .u8 c)] [] [] (by kernel_rfl) hB trivial ?_
  refine ae_then ?_
  refine aw_seq ?_
  by_cases h1 : 48 ≤ c
  ·refine aw_reg [(1, .dec true)] [2] [] [Bv (decide (c ≤ 57))] [] [48 ≤ c] (by kernel_rfl) hB ⟨h1, trivial⟩ ?_
   refine ae_then ?_
   refine aw_ret ?_
   refine ae_ret hB (Bv (decide (c ≤ 57))) (by kernel_rfl) (.inl (by first | rfl | (refine congrArg Bv ?_; simp [inB, *]; done) | (refine congrArg Bv ?_; simp [inB, *]; omega) | (refine congrArg Bv ?_; simp_all [inB]; done) | (refine congrArg Bv ?_; simp_all [inB]; omega))) rfl (fun _ => trivial)
  ·refine aw_reg [(1, .dec false)] [2] [] [Bv false] [] [¬ (48 ≤ c)] (by kernel_rfl) hB ⟨h1, trivial⟩ ?_
   refine ae_then ?_
   refine aw_ret ?_
   refine ae_ret hB (Bv false) (by kernel_rfl) (.inl (by first | rfl | (refine congrArg Bv ?_; simp [inB, *]; done) | (refine congrArg Bv ?_; simp [inB, *]; omega) | (refine congrArg Bv ?_; simp_all [inB]; done) | (refine congrArg Bv ?_; simp_all [inB]; omega))) rfl (fun _ => trivial)


-- spec.l23Letters
theorem l23Letters_ok (s : ByteArray) (ok : s.size ≤ 9223372036854775807) : Con Tryd.prog 41 [Sv s] true (Bv (lettersB s)) := by
  refine fn_ok (fn := Tryd.f41) (nt := 28) Tryd.func41 rfl rfl rfl rfl (by simp [taggedL, tagged]) fun B hB => ?_
  refine aw_seq ?_
  refine aw_reg [] [0] [] [Sv s] [] [] (by kernel_rfl) hB trivial ?_
  refine ae_then ?_
  refine aw_seq ?_
  refine aw_seq ?_
  refine aw_reg [] [0, 3] [] [Sv s, I 0] [] [] (by kernel_rfl) hB trivial ?_
  refine ae_then ?_
  refine aw_block ?_
  refine aw_loop (fun gn gσ => ∃ (i : Int), gn = ((s.size : Int) - i).toNat ∧ (0 ≤ i ∧ i ≤ (s.size : Int)) ∧ (∀ j : Nat, (j : Int) < i → cellB (bAt s j) = true) ∧ gσ = mkS [(0, Sv s), (3, I i)] []) (((s.size : Int) - 0).toNat) ⟨0, rfl, (by omega), (by intro j hj; omega), rfl⟩ (fun gn gσ hI => ?_)
  obtain ⟨i, rfl, hi0, hall0, rfl⟩ := hI
  refine aw_seq ?_
  refine aw_seq ?_
  by_cases h1 : i < (s.size : Int)
  ·have hi : i.toNat < s.size := by omega
   refine aw_reg [(3, .dec true)] [0, 3, 7] [] [Sv s, I i, Bv true] [] [i < (s.size : Int)] (by kernel_rfl) hB ⟨h1, trivial⟩ ?_
   refine ae_then ?_
   refine aw_true rfl ?_
   refine aw_skip ?_
   refine ae_then ?_
   refine aw_seq ?_
   refine aw_block ?_
   refine aw_seq ?_
   rcases Bool.eq_false_or_eq_true (inB (bAt s i.toNat) 97 122) with h2 | h2
   ·refine aw_reg [(3, .call [(true, .val (.int .u8 (bAt s i.toNat)))] true (Bv true))] [0, 3, 27] [] [Sv s, I i, Bv false] [] [(0 : Int) ≤ i ∧ i < (s.size : Int), Con Tryd.prog 65 [.val (.int .u8 (bAt s i.toNat))] true (Bv true) ∧ ((.val (.int .u8 (bAt s i.toNat)) : AV) = .val (.int .u8 (bAt s i.toNat))) ∧ True] (by kernel_rfl) hB ⟨⟨(by omega), (by omega)⟩, ⟨(con_bool h2 (l01Small_ok (bAt s i.toNat))), rfl, trivial⟩, trivial⟩ ?_
    refine ae_then ?_
    refine aw_false rfl ?_
    refine aw_skip ?_
    refine ae_block 1 ?_
    refine ae_then ?_
    refine aw_reg [] [0, 3] [] [Sv s, I (i + 1)] [] [inR .i64 (i + 1)] (by kernel_rfl) hB ⟨(inR_i64 (by omega) (by omega)), trivial⟩ ?_
    exact ae_again _ (by omega) ⟨(i + 1), rfl, (by omega), (by intro j hj; by_cases ej : j = i.toNat; (subst ej; simp_all [cellB]); exact hall0 j (by omega)), rfl⟩
   ·rcases Bool.eq_false_or_eq_true (inB (bAt s i.toNat) 48 57) with h3 | h3
    ·refine aw_reg [(3, .call [(true, .val (.int .u8 (bAt s i.toNat)))] true (Bv false)), (9, .call [(true, .val (.int .u8 (bAt s i.toNat)))] true (Bv true))] [0, 3, 27] [] [Sv s, I i, Bv false] [] [(0 : Int) ≤ i ∧ i < (s.size : Int), Con Tryd.prog 65 [.val (.int .u8 (bAt s i.toNat))] true (Bv false) ∧ ((.val (.int .u8 (bAt s i.toNat)) : AV) = .val (.int .u8 (bAt s i.toNat))) ∧ True, (0 : Int) ≤ i ∧ i < (s.size : Int), Con Tryd.prog 66 [.val (.int .u8 (bAt s i.toNat))] true (Bv true) ∧ ((.val (.int .u8 (bAt s i.toNat)) : AV) = .val (.int .u8 (bAt s i.toNat))) ∧ True] (by kernel_rfl) hB ⟨⟨(by omega), (by omega)⟩, ⟨(con_bool h2 (l01Small_ok (bAt s i.toNat))), rfl, trivial⟩, ⟨(by omega), (by omega)⟩, ⟨(con_bool h3 (l01Digit_ok (bAt s i.toNat))), rfl, trivial⟩, trivial⟩ ?_
     refine ae_then ?_
     refine aw_false rfl ?_
     refine aw_skip ?_
     refine ae_block 1 ?_
     refine ae_then ?_
     refine aw_reg [] [0, 3] [] [Sv s, I (i + 1)] [] [inR .i64 (i + 1)] (by kernel_rfl) hB ⟨(inR_i64 (by omega) (by omega)), trivial⟩ ?_
     exact ae_again _ (by omega) ⟨(i + 1), rfl, (by omega), (by intro j hj; by_cases ej : j = i.toNat; (subst ej; simp_all [cellB]); exact hall0 j (by omega)), rfl⟩
    ·by_cases h4 : (bAt s i.toNat) = 32
     ·refine aw_reg [(3, .call [(true, .val (.int .u8 (bAt s i.toNat)))] true (Bv false)), (9, .call [(true, .val (.int .u8 (bAt s i.toNat)))] true (Bv false)), (16, .dec false)] [0, 3, 27] [] [Sv s, I i, Bv false] [] [(0 : Int) ≤ i ∧ i < (s.size : Int), Con Tryd.prog 65 [.val (.int .u8 (bAt s i.toNat))] true (Bv false) ∧ ((.val (.int .u8 (bAt s i.toNat)) : AV) = .val (.int .u8 (bAt s i.toNat))) ∧ True, (0 : Int) ≤ i ∧ i < (s.size : Int), Con Tryd.prog 66 [.val (.int .u8 (bAt s i.toNat))] true (Bv false) ∧ ((.val (.int .u8 (bAt s i.toNat)) : AV) = .val (.int .u8 (bAt s i.toNat))) ∧ True, (0 : Int) ≤ i ∧ i < (s.size : Int), ¬ ((bAt s i.toNat) ≠ 32)] (by kernel_rfl) hB ⟨⟨(by omega), (by omega)⟩, ⟨(con_bool h2 (l01Small_ok (bAt s i.toNat))), rfl, trivial⟩, ⟨(by omega), (by omega)⟩, ⟨(con_bool h3 (l01Digit_ok (bAt s i.toNat))), rfl, trivial⟩, ⟨(by omega), (by omega)⟩, (fun hq => hq h4), trivial⟩ ?_
      refine ae_then ?_
      refine aw_false rfl ?_
      refine aw_skip ?_
      refine ae_block 1 ?_
      refine ae_then ?_
      refine aw_reg [] [0, 3] [] [Sv s, I (i + 1)] [] [inR .i64 (i + 1)] (by kernel_rfl) hB ⟨(inR_i64 (by omega) (by omega)), trivial⟩ ?_
      exact ae_again _ (by omega) ⟨(i + 1), rfl, (by omega), (by intro j hj; by_cases ej : j = i.toNat; (subst ej; simp_all [cellB]); exact hall0 j (by omega)), rfl⟩
     ·refine aw_reg [(3, .call [(true, .val (.int .u8 (bAt s i.toNat)))] true (Bv false)), (9, .call [(true, .val (.int .u8 (bAt s i.toNat)))] true (Bv false)), (16, .dec true)] [0, 3, 27] [] [Sv s, I i, Bv true] [] [(0 : Int) ≤ i ∧ i < (s.size : Int), Con Tryd.prog 65 [.val (.int .u8 (bAt s i.toNat))] true (Bv false) ∧ ((.val (.int .u8 (bAt s i.toNat)) : AV) = .val (.int .u8 (bAt s i.toNat))) ∧ True, (0 : Int) ≤ i ∧ i < (s.size : Int), Con Tryd.prog 66 [.val (.int .u8 (bAt s i.toNat))] true (Bv false) ∧ ((.val (.int .u8 (bAt s i.toNat)) : AV) = .val (.int .u8 (bAt s i.toNat))) ∧ True, (0 : Int) ≤ i ∧ i < (s.size : Int), (bAt s i.toNat) ≠ 32] (by kernel_rfl) hB ⟨⟨(by omega), (by omega)⟩, ⟨(con_bool h2 (l01Small_ok (bAt s i.toNat))), rfl, trivial⟩, ⟨(by omega), (by omega)⟩, ⟨(con_bool h3 (l01Digit_ok (bAt s i.toNat))), rfl, trivial⟩, ⟨(by omega), (by omega)⟩, h4, trivial⟩ ?_
      refine ae_then ?_
      refine aw_true rfl ?_
      refine aw_seq ?_
      refine aw_reg [] [2] [] [Bv false] [] [] (by kernel_rfl) hB trivial ?_
      refine ae_then ?_
      refine aw_ret ?_
      refine ae_ret_block (ae_ret_then (ae_ret_then (ae_ret_block (ae_ret_then ?_))))
      refine ae_ret hB (Bv false) (by kernel_rfl) (.inl (by refine congrArg Bv ?_; first | exact hall.symm | (symm; exact allN_not hi (by simp_all [cellB, inB])))) rfl (fun _ => trivial)
  ·have hall : allN s.size (fun j => cellB (bAt s j)) = true := allN_at (fun j hj => hall0 j (by omega))
   refine aw_reg [(3, .dec false)] [0, 3, 7] [] [Sv s, I i, Bv false] [] [¬ (i < (s.size : Int))] (by kernel_rfl) hB ⟨h1, trivial⟩ ?_
   refine ae_then ?_
   refine aw_false rfl ?_
   refine aw_exit ?_
   refine ae_exit_then ?_
   refine ae_exit_then ?_
   refine ae_exit_same ?_
   refine ae_then ?_
   refine aw_seq ?_
   refine aw_reg [] [2] [] [Bv true] [] [] (by kernel_rfl) hB trivial ?_
   refine ae_then ?_
   refine aw_ret ?_
   refine ae_ret hB (Bv true) (by kernel_rfl) (.inl (by refine congrArg Bv ?_; first | exact hall.symm | (symm; exact allN_not hi (by simp_all [cellB, inB])))) rfl (fun _ => trivial)


-- spec.l00In
theorem l00In_ok (n : Int) (low : Int) (high : Int) : Con Tryd.prog 48 [I n, I low, I high] true (Bv (inB n low high)) := by
  refine fn_ok (fn := Tryd.f48) (nt := 15) Tryd.func48 rfl rfl rfl rfl (by simp [taggedL, tagged]) fun B hB => ?_
  refine aw_seq ?_
  refine aw_reg [] [0, 1, 2] [] [I n, I low, I high] [] [] (by kernel_rfl) hB trivial ?_
  refine ae_then ?_
  refine aw_seq ?_
  by_cases h1 : low ≤ n
  ·refine aw_reg [(2, .dec true)] [6] [] [Bv (decide (n ≤ high))] [] [low ≤ n] (by kernel_rfl) hB ⟨h1, trivial⟩ ?_
   refine ae_then ?_
   refine aw_ret ?_
   refine ae_ret hB (Bv (decide (n ≤ high))) (by kernel_rfl) (.inl (by first | rfl | (refine congrArg Bv ?_; simp [inB, *]; done) | (refine congrArg Bv ?_; simp [inB, *]; omega) | (refine congrArg Bv ?_; simp_all [inB]; done) | (refine congrArg Bv ?_; simp_all [inB]; omega))) rfl (fun _ => trivial)
  ·refine aw_reg [(2, .dec false)] [6] [] [Bv false] [] [¬ (low ≤ n)] (by kernel_rfl) hB ⟨h1, trivial⟩ ?_
   refine ae_then ?_
   refine aw_ret ?_
   refine ae_ret hB (Bv false) (by kernel_rfl) (.inl (by first | rfl | (refine congrArg Bv ?_; simp [inB, *]; done) | (refine congrArg Bv ?_; simp [inB, *]; omega) | (refine congrArg Bv ?_; simp_all [inB]; done) | (refine congrArg Bv ?_; simp_all [inB]; omega))) rfl (fun _ => trivial)


-- spec.l23Ok
theorem l23Ok_ok (l : CellRow) (ok : l.Text.size ≤ 9223372036854775807) : Con Tryd.prog 40 [.ptr false [Sv l.Text, I l.X, I l.Y, I l.Cell]] true (Bv (okRow l)) := by
  refine fn_ok (fn := Tryd.f40) (nt := 37) Tryd.func40 rfl rfl rfl rfl (by simp [taggedL, tagged]) fun B hB => ?_
  refine aw_seq ?_
  refine aw_reg [] [0] [] [.ptr false [Sv l.Text, I l.X, I l.Y, I l.Cell]] [] [] (by kernel_rfl) hB trivial ?_
  refine ae_then ?_
  refine aw_seq ?_
  rcases Bool.eq_false_or_eq_true (lettersB l.Text) with h1 | h1
  ·by_cases h2 : (l.Text.size : Int) ≤ 60
   ·rcases Bool.eq_false_or_eq_true (inB l.X 0 4095) with h3 | h3
    ·rcases Bool.eq_false_or_eq_true (inB l.Y 0 4095) with h4 | h4
     ·refine aw_reg [(4, .call [(true, Sv l.Text)] true (Bv true)), (11, .dec true), (18, .call [(true, I l.X), (true, I 0), (true, I 4095)] true (Bv true)), (25, .call [(true, I l.Y), (true, I 0), (true, I 4095)] true (Bv true)), (32, .call [(true, I l.Cell), (true, I 2), (true, I 60)] true (Bv (inB l.Cell 2 60)))] [2] [] [Bv (inB l.Cell 2 60)] [] [Con Tryd.prog 41 [Sv l.Text] true (Bv true) ∧ ((Sv l.Text : AV) = Sv l.Text) ∧ True, (l.Text.size : Int) ≤ 60, Con Tryd.prog 48 [I l.X, I 0, I 4095] true (Bv true) ∧ ((I l.X : AV) = I l.X) ∧ ((I 0 : AV) = I 0) ∧ ((I 4095 : AV) = I 4095) ∧ True, Con Tryd.prog 48 [I l.Y, I 0, I 4095] true (Bv true) ∧ ((I l.Y : AV) = I l.Y) ∧ ((I 0 : AV) = I 0) ∧ ((I 4095 : AV) = I 4095) ∧ True, Con Tryd.prog 48 [I l.Cell, I 2, I 60] true (Bv (inB l.Cell 2 60)) ∧ ((I l.Cell : AV) = I l.Cell) ∧ ((I 2 : AV) = I 2) ∧ ((I 60 : AV) = I 60) ∧ True] (by kernel_rfl) hB ⟨⟨(con_bool h1 (l23Letters_ok l.Text ok)), rfl, trivial⟩, h2, ⟨(con_bool h3 (l00In_ok l.X 0 4095)), rfl, rfl, rfl, trivial⟩, ⟨(con_bool h4 (l00In_ok l.Y 0 4095)), rfl, rfl, rfl, trivial⟩, ⟨(l00In_ok l.Cell 2 60), rfl, rfl, rfl, trivial⟩, trivial⟩ ?_
      refine ae_then ?_
      refine aw_ret ?_
      refine ae_ret hB (Bv (inB l.Cell 2 60)) (by kernel_rfl) (.inl (by first | rfl | (refine congrArg Bv ?_; simp [okRow, inB, *]; done) | (refine congrArg Bv ?_; simp [okRow, inB, *]; omega) | (refine congrArg Bv ?_; simp_all [okRow, inB]; done) | (refine congrArg Bv ?_; simp_all [okRow, inB]; omega))) rfl (fun _ => trivial)
     ·refine aw_reg [(4, .call [(true, Sv l.Text)] true (Bv true)), (11, .dec true), (18, .call [(true, I l.X), (true, I 0), (true, I 4095)] true (Bv true)), (25, .call [(true, I l.Y), (true, I 0), (true, I 4095)] true (Bv false))] [2] [] [Bv false] [] [Con Tryd.prog 41 [Sv l.Text] true (Bv true) ∧ ((Sv l.Text : AV) = Sv l.Text) ∧ True, (l.Text.size : Int) ≤ 60, Con Tryd.prog 48 [I l.X, I 0, I 4095] true (Bv true) ∧ ((I l.X : AV) = I l.X) ∧ ((I 0 : AV) = I 0) ∧ ((I 4095 : AV) = I 4095) ∧ True, Con Tryd.prog 48 [I l.Y, I 0, I 4095] true (Bv false) ∧ ((I l.Y : AV) = I l.Y) ∧ ((I 0 : AV) = I 0) ∧ ((I 4095 : AV) = I 4095) ∧ True] (by kernel_rfl) hB ⟨⟨(con_bool h1 (l23Letters_ok l.Text ok)), rfl, trivial⟩, h2, ⟨(con_bool h3 (l00In_ok l.X 0 4095)), rfl, rfl, rfl, trivial⟩, ⟨(con_bool h4 (l00In_ok l.Y 0 4095)), rfl, rfl, rfl, trivial⟩, trivial⟩ ?_
      refine ae_then ?_
      refine aw_ret ?_
      refine ae_ret hB (Bv false) (by kernel_rfl) (.inl (by first | rfl | (refine congrArg Bv ?_; simp [okRow, inB, *]; done) | (refine congrArg Bv ?_; simp [okRow, inB, *]; omega) | (refine congrArg Bv ?_; simp_all [okRow, inB]; done) | (refine congrArg Bv ?_; simp_all [okRow, inB]; omega))) rfl (fun _ => trivial)
    ·refine aw_reg [(4, .call [(true, Sv l.Text)] true (Bv true)), (11, .dec true), (18, .call [(true, I l.X), (true, I 0), (true, I 4095)] true (Bv false))] [2] [] [Bv false] [] [Con Tryd.prog 41 [Sv l.Text] true (Bv true) ∧ ((Sv l.Text : AV) = Sv l.Text) ∧ True, (l.Text.size : Int) ≤ 60, Con Tryd.prog 48 [I l.X, I 0, I 4095] true (Bv false) ∧ ((I l.X : AV) = I l.X) ∧ ((I 0 : AV) = I 0) ∧ ((I 4095 : AV) = I 4095) ∧ True] (by kernel_rfl) hB ⟨⟨(con_bool h1 (l23Letters_ok l.Text ok)), rfl, trivial⟩, h2, ⟨(con_bool h3 (l00In_ok l.X 0 4095)), rfl, rfl, rfl, trivial⟩, trivial⟩ ?_
     refine ae_then ?_
     refine aw_ret ?_
     refine ae_ret hB (Bv false) (by kernel_rfl) (.inl (by first | rfl | (refine congrArg Bv ?_; simp [okRow, inB, *]; done) | (refine congrArg Bv ?_; simp [okRow, inB, *]; omega) | (refine congrArg Bv ?_; simp_all [okRow, inB]; done) | (refine congrArg Bv ?_; simp_all [okRow, inB]; omega))) rfl (fun _ => trivial)
   ·refine aw_reg [(4, .call [(true, Sv l.Text)] true (Bv true)), (11, .dec false)] [2] [] [Bv false] [] [Con Tryd.prog 41 [Sv l.Text] true (Bv true) ∧ ((Sv l.Text : AV) = Sv l.Text) ∧ True, ¬ ((l.Text.size : Int) ≤ 60)] (by kernel_rfl) hB ⟨⟨(con_bool h1 (l23Letters_ok l.Text ok)), rfl, trivial⟩, h2, trivial⟩ ?_
    refine ae_then ?_
    refine aw_ret ?_
    refine ae_ret hB (Bv false) (by kernel_rfl) (.inl (by first | rfl | (refine congrArg Bv ?_; simp [okRow, inB, *]; done) | (refine congrArg Bv ?_; simp [okRow, inB, *]; omega) | (refine congrArg Bv ?_; simp_all [okRow, inB]; done) | (refine congrArg Bv ?_; simp_all [okRow, inB]; omega))) rfl (fun _ => trivial)
  ·refine aw_reg [(4, .call [(true, Sv l.Text)] true (Bv false))] [2] [] [Bv false] [] [Con Tryd.prog 41 [Sv l.Text] true (Bv false) ∧ ((Sv l.Text : AV) = Sv l.Text) ∧ True] (by kernel_rfl) hB ⟨⟨(con_bool h1 (l23Letters_ok l.Text ok)), rfl, trivial⟩, trivial⟩ ?_
   refine ae_then ?_
   refine aw_ret ?_
   refine ae_ret hB (Bv false) (by kernel_rfl) (.inl (by first | rfl | (refine congrArg Bv ?_; simp [okRow, inB, *]; done) | (refine congrArg Bv ?_; simp [okRow, inB, *]; omega) | (refine congrArg Bv ?_; simp_all [okRow, inB]; done) | (refine congrArg Bv ?_; simp_all [okRow, inB]; omega))) rfl (fun _ => trivial)


-- spec.l02Point
theorem l02Point_ok (p : Point) : Con Tryd.prog 67 [agPoint p] true (Bv (okP p)) := by
  refine fn_ok (fn := Tryd.f67) (nt := 16) Tryd.func67 rfl rfl rfl rfl (by simp [taggedL, tagged]) fun B hB => ?_
  refine aw_seq ?_
  refine aw_reg [(0, .new 1)] [1] [1] [.ref 1 0] [some (bxPoint p)] [] (by kernel_rfl) hB trivial ?_
  refine ae_then ?_
  refine aw_seq ?_
  rcases Bool.eq_false_or_eq_true (inB p.X 0 4095) with h1 | h1
  ·rcases Bool.eq_false_or_eq_true (inB p.Y 0 4095) with h2 | h2
   ·refine aw_reg [(2, .call [(true, I p.X), (true, I 0), (true, I 4095)] true (Bv true)), (6, .call [(true, I p.Y), (true, I 0), (true, I 4095)] true (Bv true)), (11, .call [(true, I p.T), (true, I 0), (true, I 3600000)] true (Bv (inB p.T 0 3600000)))] [2] [] [Bv (inB p.T 0 3600000)] [] [Con Tryd.prog 48 [I p.X, I 0, I 4095] true (Bv true) ∧ ((I p.X : AV) = I p.X) ∧ ((I 0 : AV) = I 0) ∧ ((I 4095 : AV) = I 4095) ∧ True, Con Tryd.prog 48 [I p.Y, I 0, I 4095] true (Bv true) ∧ ((I p.Y : AV) = I p.Y) ∧ ((I 0 : AV) = I 0) ∧ ((I 4095 : AV) = I 4095) ∧ True, Con Tryd.prog 48 [I p.T, I 0, I 3600000] true (Bv (inB p.T 0 3600000)) ∧ ((I p.T : AV) = I p.T) ∧ ((I 0 : AV) = I 0) ∧ ((I 3600000 : AV) = I 3600000) ∧ True] (by kernel_rfl) hB ⟨⟨(con_bool h1 (l00In_ok p.X 0 4095)), rfl, rfl, rfl, trivial⟩, ⟨(con_bool h2 (l00In_ok p.Y 0 4095)), rfl, rfl, rfl, trivial⟩, ⟨(l00In_ok p.T 0 3600000), rfl, rfl, rfl, trivial⟩, trivial⟩ ?_
    refine ae_then ?_
    refine aw_ret ?_
    refine ae_ret hB (Bv (inB p.T 0 3600000)) (by kernel_rfl) (.inl (by first | rfl | (refine congrArg Bv ?_; simp [okP, *]; done) | (refine congrArg Bv ?_; simp [okP, *]; omega) | (refine congrArg Bv ?_; simp_all [okP]; done) | (refine congrArg Bv ?_; simp_all [okP]; omega))) rfl (fun _ => trivial)
   ·refine aw_reg [(2, .call [(true, I p.X), (true, I 0), (true, I 4095)] true (Bv true)), (6, .call [(true, I p.Y), (true, I 0), (true, I 4095)] true (Bv false))] [2] [] [Bv false] [] [Con Tryd.prog 48 [I p.X, I 0, I 4095] true (Bv true) ∧ ((I p.X : AV) = I p.X) ∧ ((I 0 : AV) = I 0) ∧ ((I 4095 : AV) = I 4095) ∧ True, Con Tryd.prog 48 [I p.Y, I 0, I 4095] true (Bv false) ∧ ((I p.Y : AV) = I p.Y) ∧ ((I 0 : AV) = I 0) ∧ ((I 4095 : AV) = I 4095) ∧ True] (by kernel_rfl) hB ⟨⟨(con_bool h1 (l00In_ok p.X 0 4095)), rfl, rfl, rfl, trivial⟩, ⟨(con_bool h2 (l00In_ok p.Y 0 4095)), rfl, rfl, rfl, trivial⟩, trivial⟩ ?_
    refine ae_then ?_
    refine aw_ret ?_
    refine ae_ret hB (Bv false) (by kernel_rfl) (.inl (by first | rfl | (refine congrArg Bv ?_; simp [okP, *]; done) | (refine congrArg Bv ?_; simp [okP, *]; omega) | (refine congrArg Bv ?_; simp_all [okP]; done) | (refine congrArg Bv ?_; simp_all [okP]; omega))) rfl (fun _ => trivial)
  ·refine aw_reg [(2, .call [(true, I p.X), (true, I 0), (true, I 4095)] true (Bv false))] [2] [] [Bv false] [] [Con Tryd.prog 48 [I p.X, I 0, I 4095] true (Bv false) ∧ ((I p.X : AV) = I p.X) ∧ ((I 0 : AV) = I 0) ∧ ((I 4095 : AV) = I 4095) ∧ True] (by kernel_rfl) hB ⟨⟨(con_bool h1 (l00In_ok p.X 0 4095)), rfl, rfl, rfl, trivial⟩, trivial⟩ ?_
   refine ae_then ?_
   refine aw_ret ?_
   refine ae_ret hB (Bv false) (by kernel_rfl) (.inl (by first | rfl | (refine congrArg Bv ?_; simp [okP, *]; done) | (refine congrArg Bv ?_; simp [okP, *]; omega) | (refine congrArg Bv ?_; simp_all [okP]; done) | (refine congrArg Bv ?_; simp_all [okP]; omega))) rfl (fun _ => trivial)


-- spec.l02Stroke
theorem l02Stroke_ok (s : Stroke) : Con Tryd.prog 42 [.ptr false [slPoint false s.Points]] true (Bv (okStroke' s)) := by
  refine fn_ok (fn := Tryd.f42) (nt := 52) Tryd.func42 rfl rfl rfl rfl (by simp [taggedL, tagged, tagPoint]) fun B hB => ?_
  refine aw_lens (x := .ptr false [slPoint false s.Points]) 0 rfl (fun len_s => ?_)
  simp [LenOK, LenL, cPoint, fPoint, slPoint] at len_s
  refine aw_seq ?_
  refine aw_reg [] [0] [] [.ptr false [slPoint false s.Points]] [] [] (by kernel_rfl) hB trivial ?_
  refine ae_then ?_
  refine aw_seq ?_
  refine aw_seq ?_
  refine aw_reg [] [0, 3] [] [.ptr false [slPoint false s.Points], I 0] [] [] (by kernel_rfl) hB trivial ?_
  refine ae_then ?_
  refine aw_block ?_
  refine aw_loop (fun gn gσ => ∃ (i : Int), gn = ((s.Points.length : Int) - i).toNat ∧ (0 ≤ i ∧ i ≤ (s.Points.length : Int)) ∧ (∀ j : Nat, (j : Int) < i → okPt s.Points j = true) ∧ gσ = mkS [(0, .ptr false [slPoint false s.Points]), (3, I i)] []) (((s.Points.length : Int) - 0).toNat) ⟨0, rfl, (by omega), (by intro j hj; omega), rfl⟩ (fun gn gσ hI => ?_)
  obtain ⟨i, rfl, hi0, hall0, rfl⟩ := hI
  refine aw_seq ?_
  refine aw_seq ?_
  by_cases h1 : i < (s.Points.length : Int)
  ·have hi : i.toNat < s.Points.length := by omega
   refine aw_reg [(6, .dec true)] [0, 3, 10] [] [.ptr false [slPoint false s.Points], I i, Bv true] [] [i < (s.Points.length : Int)] (by kernel_rfl) hB ⟨h1, trivial⟩ ?_
   refine ae_then ?_
   refine aw_true rfl ?_
   refine aw_skip ?_
   refine ae_then ?_
   refine aw_seq ?_
   refine aw_block ?_
   refine aw_seq ?_
   rcases Bool.eq_false_or_eq_true (okP (at_ s.Points i.toNat)) with h2 | h2
   ·by_cases h3 : 0 < i
    ·by_cases h4 : ((at_ s.Points i.toNat).T) ≤ ((at_ s.Points ((i - 1).toNat)).T)
     ·have hall : allN s.Points.length (okPt s.Points) = false := allN_not hi (okPt_no h3 h4)
      refine aw_reg [(7, .call [(true, agPoint (at_ s.Points i.toNat))] true (Bv true)), (11, .dec true), (30, .dec true)] [0, 3, 45] [] [.ptr false [slPoint false s.Points], I i, Bv true] [] [(0 : Int) ≤ i ∧ i < (s.Points.length : Int), Con Tryd.prog 67 [agPoint (at_ s.Points i.toNat)] true (Bv true) ∧ ((agPoint (at_ s.Points i.toNat) : AV) = agPoint (at_ s.Points i.toNat)) ∧ True, 0 < i, (0 : Int) ≤ i ∧ i < (s.Points.length : Int), inR .i64 (i - 1), (0 : Int) ≤ (i - 1) ∧ (i - 1) < (s.Points.length : Int), ((at_ s.Points i.toNat).T) ≤ ((at_ s.Points ((i - 1).toNat)).T)] (by kernel_rfl) hB ⟨⟨(by omega), (by omega)⟩, ⟨(con_bool h2 (l02Point_ok (at_ s.Points i.toNat))), rfl, trivial⟩, h3, ⟨(by omega), (by omega)⟩, (inR_i64 (by omega) (by omega)), ⟨(by omega), (by omega)⟩, h4, trivial⟩ ?_
      refine ae_then ?_
      refine aw_true rfl ?_
      refine aw_seq ?_
      refine aw_reg [] [2] [] [Bv false] [] [] (by kernel_rfl) hB trivial ?_
      refine ae_then ?_
      refine aw_ret ?_
      refine ae_ret_block (ae_ret_then (ae_ret_then (ae_ret_block (ae_ret_then ?_))))
      refine ae_ret hB (Bv false) (by kernel_rfl) (.inl (by first | rfl | (refine congrArg Bv ?_; simp [okStroke', inB, *]; done) | (refine congrArg Bv ?_; simp [okStroke', inB, *]; omega) | (refine congrArg Bv ?_; simp_all [okStroke', inB]; done) | (refine congrArg Bv ?_; simp_all [okStroke', inB]; omega))) rfl (fun _ => trivial)
     ·have hok := okPt_yes h2 h3 h4
      refine aw_reg [(7, .call [(true, agPoint (at_ s.Points i.toNat))] true (Bv true)), (11, .dec true), (30, .dec false)] [0, 3, 45] [] [.ptr false [slPoint false s.Points], I i, Bv false] [] [(0 : Int) ≤ i ∧ i < (s.Points.length : Int), Con Tryd.prog 67 [agPoint (at_ s.Points i.toNat)] true (Bv true) ∧ ((agPoint (at_ s.Points i.toNat) : AV) = agPoint (at_ s.Points i.toNat)) ∧ True, 0 < i, (0 : Int) ≤ i ∧ i < (s.Points.length : Int), inR .i64 (i - 1), (0 : Int) ≤ (i - 1) ∧ (i - 1) < (s.Points.length : Int), ¬ (((at_ s.Points i.toNat).T) ≤ ((at_ s.Points ((i - 1).toNat)).T))] (by kernel_rfl) hB ⟨⟨(by omega), (by omega)⟩, ⟨(con_bool h2 (l02Point_ok (at_ s.Points i.toNat))), rfl, trivial⟩, h3, ⟨(by omega), (by omega)⟩, (inR_i64 (by omega) (by omega)), ⟨(by omega), (by omega)⟩, h4, trivial⟩ ?_
      refine ae_then ?_
      refine aw_false rfl ?_
      refine aw_skip ?_
      refine ae_block 1 ?_
      refine ae_then ?_
      refine aw_reg [] [0, 3] [] [.ptr false [slPoint false s.Points], I (i + 1)] [] [inR .i64 (i + 1)] (by kernel_rfl) hB ⟨(inR_i64 (by omega) (by omega)), trivial⟩ ?_
      exact ae_again _ (by omega) ⟨(i + 1), rfl, (by omega), (by intro j hj; by_cases ej : j = i.toNat; (subst ej; first | assumption | exact hok); exact hall0 j (by omega)), rfl⟩
    ·have hok := okPt_zero h2 hi0.1 h3
     refine aw_reg [(7, .call [(true, agPoint (at_ s.Points i.toNat))] true (Bv true)), (11, .dec false)] [0, 3, 45] [] [.ptr false [slPoint false s.Points], I i, Bv false] [] [(0 : Int) ≤ i ∧ i < (s.Points.length : Int), Con Tryd.prog 67 [agPoint (at_ s.Points i.toNat)] true (Bv true) ∧ ((agPoint (at_ s.Points i.toNat) : AV) = agPoint (at_ s.Points i.toNat)) ∧ True, ¬ (0 < i)] (by kernel_rfl) hB ⟨⟨(by omega), (by omega)⟩, ⟨(con_bool h2 (l02Point_ok (at_ s.Points i.toNat))), rfl, trivial⟩, h3, trivial⟩ ?_
     refine ae_then ?_
     refine aw_false rfl ?_
     refine aw_skip ?_
     refine ae_block 1 ?_
     refine ae_then ?_
     refine aw_reg [] [0, 3] [] [.ptr false [slPoint false s.Points], I (i + 1)] [] [inR .i64 (i + 1)] (by kernel_rfl) hB ⟨(inR_i64 (by omega) (by omega)), trivial⟩ ?_
     exact ae_again _ (by omega) ⟨(i + 1), rfl, (by omega), (by intro j hj; by_cases ej : j = i.toNat; (subst ej; first | assumption | exact hok); exact hall0 j (by omega)), rfl⟩
   ·have hall : allN s.Points.length (okPt s.Points) = false := allN_not hi (okPt_bad h2)
    refine aw_reg [(7, .call [(true, agPoint (at_ s.Points i.toNat))] true (Bv false))] [0, 3, 45] [] [.ptr false [slPoint false s.Points], I i, Bv true] [] [(0 : Int) ≤ i ∧ i < (s.Points.length : Int), Con Tryd.prog 67 [agPoint (at_ s.Points i.toNat)] true (Bv false) ∧ ((agPoint (at_ s.Points i.toNat) : AV) = agPoint (at_ s.Points i.toNat)) ∧ True] (by kernel_rfl) hB ⟨⟨(by omega), (by omega)⟩, ⟨(con_bool h2 (l02Point_ok (at_ s.Points i.toNat))), rfl, trivial⟩, trivial⟩ ?_
    refine ae_then ?_
    refine aw_true rfl ?_
    refine aw_seq ?_
    refine aw_reg [] [2] [] [Bv false] [] [] (by kernel_rfl) hB trivial ?_
    refine ae_then ?_
    refine aw_ret ?_
    refine ae_ret_block (ae_ret_then (ae_ret_then (ae_ret_block (ae_ret_then ?_))))
    refine ae_ret hB (Bv false) (by kernel_rfl) (.inl (by first | rfl | (refine congrArg Bv ?_; simp [okStroke', inB, *]; done) | (refine congrArg Bv ?_; simp [okStroke', inB, *]; omega) | (refine congrArg Bv ?_; simp_all [okStroke', inB]; done) | (refine congrArg Bv ?_; simp_all [okStroke', inB]; omega))) rfl (fun _ => trivial)
  ·have hall : allN s.Points.length (okPt s.Points) = true := allN_at (fun j hj => hall0 j (by omega))
   refine aw_reg [(6, .dec false)] [0, 3, 10] [] [.ptr false [slPoint false s.Points], I i, Bv false] [] [¬ (i < (s.Points.length : Int))] (by kernel_rfl) hB ⟨h1, trivial⟩ ?_
   refine ae_then ?_
   refine aw_false rfl ?_
   refine aw_exit ?_
   refine ae_exit_then ?_
   refine ae_exit_then ?_
   refine ae_exit_same ?_
   refine ae_then ?_
   refine aw_seq ?_
   refine aw_reg [(5, .call [(true, I (s.Points.length : Int)), (true, I 1), (true, I 60)] true (Bv (inB (s.Points.length : Int) 1 60)))] [2] [] [Bv (inB (s.Points.length : Int) 1 60)] [] [Con Tryd.prog 48 [I (s.Points.length : Int), I 1, I 60] true (Bv (inB (s.Points.length : Int) 1 60)) ∧ ((I (s.Points.length : Int) : AV) = I (s.Points.length : Int)) ∧ ((I 1 : AV) = I 1) ∧ ((I 60 : AV) = I 60) ∧ True] (by kernel_rfl) hB ⟨⟨(l00In_ok (s.Points.length : Int) 1 60), rfl, rfl, rfl, trivial⟩, trivial⟩ ?_
   refine ae_then ?_
   refine aw_ret ?_
   refine ae_ret hB (Bv (inB (s.Points.length : Int) 1 60)) (by kernel_rfl) (.inl (by first | rfl | (refine congrArg Bv ?_; simp [okStroke', inB, *]; done) | (refine congrArg Bv ?_; simp [okStroke', inB, *]; omega) | (refine congrArg Bv ?_; simp_all [okStroke', inB]; done) | (refine congrArg Bv ?_; simp_all [okStroke', inB]; omega))) rfl (fun _ => trivial)


-- spec.l05Far
theorem l05Far_ok (a : Point) (b : Point) (ha : okP a = true) (hb : okP b = true) : Con Tryd.prog 123 [agPoint a, agPoint b] true (I (farI a b)) := by
  have ha' := okP_iff.1 ha
  have hb' := okP_iff.1 hb
  have hfb := far_bd ha hb
  refine fn_ok (fn := Tryd.f123) (nt := 24) Tryd.func123 rfl rfl rfl rfl (by simp [taggedL, tagged]) fun B hB => ?_
  refine aw_seq ?_
  refine aw_reg [(0, .new 2), (1, .new 3)] [2, 3] [2, 3] [.ref 2 0, .ref 3 0] [some (bxPoint a), some (bxPoint b)] [] (by kernel_rfl) hB trivial ?_
  refine ae_then ?_
  refine aw_seq ?_
  refine aw_reg [] [2, 3, 5] [2, 3] [.ref 2 0, .ref 3 0, I (a.X - b.X)] [some (bxPoint a), some (bxPoint b)] [inR .i64 (a.X - b.X)] (by kernel_rfl) hB ⟨(inR_i64 (by omega) (by omega)), trivial⟩ ?_
  refine ae_then ?_
  refine aw_seq ?_
  refine aw_reg [] [5, 6] [] [I (a.X - b.X), I (a.Y - b.Y)] [] [inR .i64 (a.Y - b.Y)] (by kernel_rfl) hB ⟨(inR_i64 (by omega) (by omega)), trivial⟩ ?_
  refine ae_then ?_
  refine aw_seq ?_
  refine aw_reg [] [4] [] [I (((a.X - b.X) * (a.X - b.X)) + ((a.Y - b.Y) * (a.Y - b.Y)))] [] [inR .i64 ((a.X - b.X) * (a.X - b.X)), inR .i64 ((a.Y - b.Y) * (a.Y - b.Y)), inR .i64 (((a.X - b.X) * (a.X - b.X)) + ((a.Y - b.Y) * (a.Y - b.Y)))] (by kernel_rfl) hB ⟨(inR_i64 (by omega) (by omega)), (inR_i64 (by omega) (by omega)), (inR_i64 (by omega) (by omega)), trivial⟩ ?_
  refine ae_then ?_
  refine aw_ret ?_
  refine ae_ret hB (I (((a.X - b.X) * (a.X - b.X)) + ((a.Y - b.Y) * (a.Y - b.Y)))) (by kernel_rfl) (.inl (by first | rfl | (refine congrArg Bv ?_; simp [*]; done) | (refine congrArg Bv ?_; simp [*]; omega) | (refine congrArg Bv ?_; simp_all []; done) | (refine congrArg Bv ?_; simp_all []; omega))) rfl (fun _ => trivial)


-- spec.l05Root
theorem l05Root_ok (n : Int) (hn : 0 ≤ n ∧ n ≤ 1000000000000000) : Con Tryd.prog 122 [I n] true (I (rootI n)) := by
  refine fn_ok (fn := Tryd.f122) (nt := 23) Tryd.func122 rfl rfl rfl rfl (by simp [taggedL, tagged]) fun B hB => ?_
  refine aw_seq ?_
  refine aw_reg [] [0] [] [I n] [] [] (by kernel_rfl) hB trivial ?_
  refine ae_then ?_
  refine aw_seq ?_
  refine aw_reg [] [0, 3] [] [I n, I 0] [] [] (by kernel_rfl) hB trivial ?_
  refine ae_then ?_
  refine aw_seq ?_
  refine aw_reg [] [0, 3, 4] [] [I n, I 0, I 40000000] [] [] (by kernel_rfl) hB trivial ?_
  refine ae_then ?_
  refine aw_seq ?_
  refine aw_block ?_
  refine aw_loop (fun gn gσ => ∃ (low : Int) (high : Int), gn = ((high : Int) - low).toNat ∧ (0 ≤ low ∧ low ≤ high ∧ high ≤ 40000000) ∧ (low * low ≤ n) ∧ (n < (high + 1) * (high + 1)) ∧ gσ = mkS [(0, I n), (3, I low), (4, I high)] []) (((40000000 : Int) - 0).toNat) ⟨0, 40000000, rfl, (by omega), (by omega), (by omega), rfl⟩ (fun gn gσ hI => ?_)
  obtain ⟨low, high, rfl, hl0, hl1, hl2, rfl⟩ := hI
  have hmm := sq_le (a := (((low + high) + 1) / 2)) (b := 40000000) (by omega) (by omega)
  have hmz := sq_le (a := 0) (b := (((low + high) + 1) / 2)) (by omega) (by omega)
  refine aw_seq ?_
  refine aw_seq ?_
  by_cases h1 : low < high
  ·refine aw_reg [(2, .dec true)] [0, 3, 4, 8] [] [I n, I low, I high, Bv true] [] [low < high] (by kernel_rfl) hB ⟨h1, trivial⟩ ?_
   refine ae_then ?_
   refine aw_true rfl ?_
   refine aw_skip ?_
   refine ae_then ?_
   refine aw_block ?_
   refine aw_seq ?_
   refine aw_reg [(4, .nn)] [0, 3, 4, 5] [] [I n, I low, I high, I (((low + high) + 1) / 2)] [] [inR .i64 (low + high), inR .i64 ((low + high) + 1), (0 : Int) ≤ ((low + high) + 1) ∧ (0 : Int) < 2 ∧ inR .i64 ((low + high) + 1)] (by kernel_rfl) hB ⟨(inR_i64 (by omega) (by omega)), (inR_i64 (by omega) (by omega)), ⟨(by omega), (by omega), (inR_i64 (by omega) (by omega))⟩, trivial⟩ ?_
   refine ae_then ?_
   refine aw_seq ?_
   by_cases h2 : ((((low + high) + 1) / 2) * (((low + high) + 1) / 2)) ≤ n
   ·refine aw_reg [(4, .dec true)] [0, 3, 4, 5, 18] [] [I n, I low, I high, I (((low + high) + 1) / 2), Bv true] [] [inR .i64 ((((low + high) + 1) / 2) * (((low + high) + 1) / 2)), ((((low + high) + 1) / 2) * (((low + high) + 1) / 2)) ≤ n] (by kernel_rfl) hB ⟨(inR_i64 (by omega) (by omega)), h2, trivial⟩ ?_
    refine ae_then ?_
    refine aw_true rfl ?_
    refine aw_reg [] [0, 3, 4] [] [I n, I (((low + high) + 1) / 2), I high] [] [] (by kernel_rfl) hB trivial ?_
    refine ae_block 1 ?_
    exact ae_again _ (by omega) ⟨(((low + high) + 1) / 2), high, rfl, (by omega), (by omega), (by first | omega | (rw [show ∀ x : Int, x - 1 + 1 = x from fun x => by omega]; omega)), rfl⟩
   ·refine aw_reg [(4, .dec false)] [0, 3, 4, 5, 18] [] [I n, I low, I high, I (((low + high) + 1) / 2), Bv false] [] [inR .i64 ((((low + high) + 1) / 2) * (((low + high) + 1) / 2)), ¬ (((((low + high) + 1) / 2) * (((low + high) + 1) / 2)) ≤ n)] (by kernel_rfl) hB ⟨(inR_i64 (by omega) (by omega)), h2, trivial⟩ ?_
    refine ae_then ?_
    refine aw_false rfl ?_
    refine aw_reg [] [0, 3, 4] [] [I n, I low, I ((((low + high) + 1) / 2) - 1)] [] [inR .i64 ((((low + high) + 1) / 2) - 1)] (by kernel_rfl) hB ⟨(inR_i64 (by omega) (by omega)), trivial⟩ ?_
    refine ae_block 1 ?_
    exact ae_again _ (by omega) ⟨low, ((((low + high) + 1) / 2) - 1), rfl, (by omega), (by omega), (by first | omega | (rw [show ∀ x : Int, x - 1 + 1 = x from fun x => by omega]; omega)), rfl⟩
  ·refine aw_reg [(2, .dec false)] [0, 3, 4, 8] [] [I n, I low, I high, Bv false] [] [¬ (low < high)] (by kernel_rfl) hB ⟨h1, trivial⟩ ?_
   refine ae_then ?_
   refine aw_false rfl ?_
   refine aw_exit ?_
   refine ae_exit_then ?_
   refine ae_exit_then ?_
   refine ae_exit_same ?_
   refine ae_then ?_
   refine aw_seq ?_
   refine aw_reg [] [2] [] [I low] [] [] (by kernel_rfl) hB trivial ?_
   refine ae_then ?_
   refine aw_ret ?_
   refine ae_ret hB (I low) (by kernel_rfl) (.inl (by exact congrArg I (Eq.symm (rootI_eq hl0.1 hl1 (by have e : high = low := (by omega); rw [e] at hl2; exact hl2))))) rfl (fun _ => trivial)


-- spec.l05Length
theorem l05Length_ok (a : Point) (b : Point) (ha : okP a = true) (hb : okP b = true) : Con Tryd.prog 103 [agPoint a, agPoint b] true (I (segI a b)) := by
  have ha' := okP_iff.1 ha
  have hb' := okP_iff.1 hb
  have hfb := far_bd ha hb
  have hlb := segI_bd ha hb
  refine fn_ok (fn := Tryd.f103) (nt := 10) Tryd.func103 rfl rfl rfl rfl (by simp [taggedL, tagged]) fun B hB => ?_
  refine aw_seq ?_
  refine aw_reg [(0, .new 2), (1, .new 3)] [2, 3] [2, 3] [.ref 2 0, .ref 3 0] [some (bxPoint a), some (bxPoint b)] [] (by kernel_rfl) hB trivial ?_
  refine ae_then ?_
  refine aw_seq ?_
  refine aw_reg [(2, .call [(true, agPoint a), (true, agPoint b)] true (I (farI a b))), (4, .call [(true, I (256 * (farI a b)))] true (I (rootI (256 * (farI a b)))))] [4] [] [I (rootI (256 * (farI a b)))] [] [Con Tryd.prog 123 [agPoint a, agPoint b] true (I (farI a b)) ∧ ((agPoint a : AV) = agPoint a) ∧ ((agPoint b : AV) = agPoint b) ∧ True, inR .i64 (256 * (farI a b)), Con Tryd.prog 122 [I (256 * (farI a b))] true (I (rootI (256 * (farI a b)))) ∧ ((I (256 * (farI a b)) : AV) = I (256 * (farI a b))) ∧ True] (by kernel_rfl) hB ⟨⟨(l05Far_ok a b ha hb), rfl, rfl, trivial⟩, (inR_i64 (by omega) (by omega)), ⟨(l05Root_ok (256 * (farI a b)) (by omega)), rfl, trivial⟩, trivial⟩ ?_
  refine ae_then ?_
  refine aw_ret ?_
  refine ae_ret hB (I (rootI (256 * (farI a b)))) (by kernel_rfl) (.inl (by first | rfl | (refine congrArg Bv ?_; simp [*]; done) | (refine congrArg Bv ?_; simp [*]; omega) | (refine congrArg Bv ?_; simp_all []; done) | (refine congrArg Bv ?_; simp_all []; omega))) rfl (fun _ => trivial)


-- spec.l05Sum
theorem l05Sum_ok (s : Stroke) (ok : okStroke' s = true) : Con Tryd.prog 98 [.ptr false [slPoint false s.Points]] true (I (sumS s.Points s.Points.length)) := by
  have hln := okS_len ok
  refine fn_ok (fn := Tryd.f98) (nt := 33) Tryd.func98 rfl rfl rfl rfl (by simp [taggedL, tagged, tagPoint]) fun B hB => ?_
  refine aw_lens (x := .ptr false [slPoint false s.Points]) 0 rfl (fun len_s => ?_)
  simp [LenOK, LenL, cPoint, fPoint, slPoint] at len_s
  refine aw_seq ?_
  refine aw_reg [] [0] [] [.ptr false [slPoint false s.Points]] [] [] (by kernel_rfl) hB trivial ?_
  refine ae_then ?_
  refine aw_seq ?_
  refine aw_reg [] [0, 3] [] [.ptr false [slPoint false s.Points], I 0] [] [] (by kernel_rfl) hB trivial ?_
  refine ae_then ?_
  refine aw_seq ?_
  refine aw_seq ?_
  refine aw_reg [] [0, 3, 4] [] [.ptr false [slPoint false s.Points], I 0, I 1] [] [] (by kernel_rfl) hB trivial ?_
  refine ae_then ?_
  refine aw_block ?_
  refine aw_loop (fun gn gσ => ∃ (sum : Int) (i : Int), gn = ((s.Points.length : Int) - i).toNat ∧ (1 ≤ i ∧ i ≤ (s.Points.length : Int)) ∧ (sum = sumS s.Points i.toNat) ∧ (0 ≤ sum ∧ sum ≤ 92659 * (i - 1)) ∧ gσ = mkS [(0, .ptr false [slPoint false s.Points]), (3, I sum), (4, I i)] []) (((s.Points.length : Int) - 1).toNat) ⟨0, 1, rfl, (by omega), (by rfl), (by omega), rfl⟩ (fun gn gσ hI => ?_)
  obtain ⟨sum, i, rfl, hi0, hs0, hs1, rfl⟩ := hI
  refine aw_seq ?_
  refine aw_seq ?_
  by_cases h1 : i < (s.Points.length : Int)
  ·have hi : i.toNat < s.Points.length := by omega
   have hi2 : (i - 1).toNat < s.Points.length := by omega
   have hp1 := okS_at ok hi2
   have hp2 := okS_at ok hi
   have hlb := segI_bd hp1 hp2
   refine aw_reg [(6, .dec true)] [0, 3, 4, 11] [] [.ptr false [slPoint false s.Points], I sum, I i, Bv true] [] [i < (s.Points.length : Int)] (by kernel_rfl) hB ⟨h1, trivial⟩ ?_
   refine ae_then ?_
   refine aw_true rfl ?_
   refine aw_skip ?_
   refine ae_then ?_
   refine aw_seq ?_
   refine aw_block ?_
   refine aw_reg [(16, .call [(true, agPoint (at_ s.Points ((i - 1).toNat))), (true, agPoint (at_ s.Points i.toNat))] true (I (segI (at_ s.Points ((i - 1).toNat)) (at_ s.Points i.toNat))))] [0, 3, 4] [] [.ptr false [slPoint false s.Points], I (sum + (segI (at_ s.Points ((i - 1).toNat)) (at_ s.Points i.toNat))), I i] [] [inR .i64 (i - 1), (0 : Int) ≤ (i - 1) ∧ (i - 1) < (s.Points.length : Int), (0 : Int) ≤ i ∧ i < (s.Points.length : Int), Con Tryd.prog 103 [agPoint (at_ s.Points ((i - 1).toNat)), agPoint (at_ s.Points i.toNat)] true (I (segI (at_ s.Points ((i - 1).toNat)) (at_ s.Points i.toNat))) ∧ ((agPoint (at_ s.Points ((i - 1).toNat)) : AV) = agPoint (at_ s.Points ((i - 1).toNat))) ∧ ((agPoint (at_ s.Points i.toNat) : AV) = agPoint (at_ s.Points i.toNat)) ∧ True, inR .i64 (sum + (segI (at_ s.Points ((i - 1).toNat)) (at_ s.Points i.toNat)))] (by kernel_rfl) hB ⟨(inR_i64 (by omega) (by omega)), ⟨(by omega), (by omega)⟩, ⟨(by omega), (by omega)⟩, ⟨(l05Length_ok (at_ s.Points ((i - 1).toNat)) (at_ s.Points i.toNat) hp1 hp2), rfl, rfl, trivial⟩, (inR_i64 (by omega) (by omega)), trivial⟩ ?_
   refine ae_block 1 ?_
   refine ae_then ?_
   refine aw_reg [] [0, 3, 4] [] [.ptr false [slPoint false s.Points], I (sum + (segI (at_ s.Points ((i - 1).toNat)) (at_ s.Points i.toNat))), I (i + 1)] [] [inR .i64 (i + 1)] (by kernel_rfl) hB ⟨(inR_i64 (by omega) (by omega)), trivial⟩ ?_
   exact ae_again _ (by omega) ⟨(sum + (segI (at_ s.Points ((i - 1).toNat)) (at_ s.Points i.toNat))), (i + 1), rfl, (by omega), (by rw [sumS_succ hi0.1, ← hs0]), (by omega), rfl⟩
  ·have hie : i.toNat = s.Points.length := by omega
   rw [hie] at hs0
   refine aw_reg [(6, .dec false)] [0, 3, 4, 11] [] [.ptr false [slPoint false s.Points], I sum, I i, Bv false] [] [¬ (i < (s.Points.length : Int))] (by kernel_rfl) hB ⟨h1, trivial⟩ ?_
   refine ae_then ?_
   refine aw_false rfl ?_
   refine aw_exit ?_
   refine ae_exit_then ?_
   refine ae_exit_then ?_
   refine ae_exit_same ?_
   refine ae_then ?_
   refine aw_seq ?_
   refine aw_reg [] [2] [] [I sum] [] [] (by kernel_rfl) hB trivial ?_
   refine ae_then ?_
   refine aw_ret ?_
   refine ae_ret hB (I sum) (by kernel_rfl) (.inl (by rw [hs0])) rfl (fun _ => trivial)


-- spec.l23Reversals
theorem l23Reversals_ok (s : Stroke) (ok : okStroke' s = true) : Con Tryd.prog 99 [.ptr false [slPoint false s.Points]] true (I ((revS s.Points s.Points.length).1)) := by
  have hln := okS_len ok
  refine fn_ok (fn := Tryd.f99) (nt := 49) Tryd.func99 rfl rfl rfl rfl (by simp [taggedL, tagged, tagPoint]) fun B hB => ?_
  refine aw_lens (x := .ptr false [slPoint false s.Points]) 0 rfl (fun len_s => ?_)
  simp [LenOK, LenL, cPoint, fPoint, slPoint] at len_s
  refine aw_seq ?_
  refine aw_reg [] [0] [] [.ptr false [slPoint false s.Points]] [] [] (by kernel_rfl) hB trivial ?_
  refine ae_then ?_
  refine aw_seq ?_
  refine aw_reg [] [0, 3] [] [.ptr false [slPoint false s.Points], I 0] [] [] (by kernel_rfl) hB trivial ?_
  refine ae_then ?_
  refine aw_seq ?_
  refine aw_reg [] [0, 3, 4] [] [.ptr false [slPoint false s.Points], I 0, I 0] [] [] (by kernel_rfl) hB trivial ?_
  refine ae_then ?_
  refine aw_seq ?_
  refine aw_seq ?_
  refine aw_reg [] [0, 3, 4, 5] [] [.ptr false [slPoint false s.Points], I 0, I 0, I 1] [] [] (by kernel_rfl) hB trivial ?_
  refine ae_then ?_
  refine aw_block ?_
  refine aw_loop (fun gn gσ => ∃ (n : Int) (last : Int) (i : Int), gn = ((s.Points.length : Int) - i).toNat ∧ (1 ≤ i ∧ i ≤ (s.Points.length : Int)) ∧ (n = (revS s.Points i.toNat).1) ∧ (last = (revS s.Points i.toNat).2) ∧ (0 ≤ n ∧ n ≤ i) ∧ gσ = mkS [(0, .ptr false [slPoint false s.Points]), (3, I n), (4, I last), (5, I i)] []) (((s.Points.length : Int) - 1).toNat) ⟨0, 0, 1, rfl, (by omega), (by rfl), (by rfl), (by omega), rfl⟩ (fun gn gσ hI => ?_)
  obtain ⟨n, last, i, rfl, hi0, hr1, hr2, hr3, rfl⟩ := hI
  refine aw_seq ?_
  refine aw_seq ?_
  by_cases h1 : i < (s.Points.length : Int)
  ·have hi : i.toNat < s.Points.length := by omega
   have hi2 : (i - 1).toNat < s.Points.length := by omega
   have hp1 := okP_iff.1 (okS_at ok hi2)
   have hp2 := okP_iff.1 (okS_at ok hi)
   refine aw_reg [(6, .dec true)] [0, 3, 4, 5, 13] [] [.ptr false [slPoint false s.Points], I n, I last, I i, Bv true] [] [i < (s.Points.length : Int)] (by kernel_rfl) hB ⟨h1, trivial⟩ ?_
   refine ae_then ?_
   refine aw_true rfl ?_
   refine aw_skip ?_
   refine ae_then ?_
   refine aw_seq ?_
   refine aw_block ?_
   refine aw_seq ?_
   refine aw_reg [] [0, 3, 4, 5, 6] [] [.ptr false [slPoint false s.Points], I n, I last, I i, I (((at_ s.Points i.toNat).X) - ((at_ s.Points ((i - 1).toNat)).X))] [] [(0 : Int) ≤ i ∧ i < (s.Points.length : Int), inR .i64 (i - 1), (0 : Int) ≤ (i - 1) ∧ (i - 1) < (s.Points.length : Int), inR .i64 (((at_ s.Points i.toNat).X) - ((at_ s.Points ((i - 1).toNat)).X))] (by kernel_rfl) hB ⟨⟨(by omega), (by omega)⟩, (inR_i64 (by omega) (by omega)), ⟨(by omega), (by omega)⟩, (inR_i64 (by omega) (by omega)), trivial⟩ ?_
   refine ae_then ?_
   refine aw_seq ?_
   refine aw_seq ?_
   by_cases h2 : (((at_ s.Points i.toNat).X) - ((at_ s.Points ((i - 1).toNat)).X)) = 0
   ·refine aw_reg [(1, .dec true)] [0, 3, 4, 5, 6, 35] [] [.ptr false [slPoint false s.Points], I n, I last, I i, I (((at_ s.Points i.toNat).X) - ((at_ s.Points ((i - 1).toNat)).X)), Bv true] [] [(((at_ s.Points i.toNat).X) - ((at_ s.Points ((i - 1).toNat)).X)) = 0] (by kernel_rfl) hB ⟨h2, trivial⟩ ?_
    refine ae_then ?_
    refine aw_true rfl ?_
    refine aw_exit ?_
    refine ae_exit_then ?_
    refine ae_exit_same ?_
    refine ae_then ?_
    refine aw_reg [] [0, 3, 4, 5] [] [.ptr false [slPoint false s.Points], I n, I last, I (i + 1)] [] [inR .i64 (i + 1)] (by kernel_rfl) hB ⟨(inR_i64 (by omega) (by omega)), trivial⟩ ?_
    exact ae_again _ (by omega) ⟨n, last, (i + 1), rfl, (by omega), (by rw [revS_1 hi0.1, ← hr1, ← hr2]; omega), (by rw [revS_2 hi0.1, ← hr2]; omega), (by omega), rfl⟩
   ·refine aw_reg [(1, .dec false)] [0, 3, 4, 5, 6, 35] [] [.ptr false [slPoint false s.Points], I n, I last, I i, I (((at_ s.Points i.toNat).X) - ((at_ s.Points ((i - 1).toNat)).X)), Bv false] [] [¬ ((((at_ s.Points i.toNat).X) - ((at_ s.Points ((i - 1).toNat)).X)) = 0)] (by kernel_rfl) hB ⟨h2, trivial⟩ ?_
    refine ae_then ?_
    refine aw_false rfl ?_
    refine aw_skip ?_
    refine ae_then ?_
    refine aw_seq ?_
    refine aw_seq ?_
    by_cases h3 : last = 0
    ·refine aw_reg [(1, .dec false)] [0, 3, 5, 6, 44] [] [.ptr false [slPoint false s.Points], I n, I i, I (((at_ s.Points i.toNat).X) - ((at_ s.Points ((i - 1).toNat)).X)), Bv false] [] [¬ (last ≠ 0)] (by kernel_rfl) hB ⟨(fun hq => hq h3), trivial⟩ ?_
     refine ae_then ?_
     refine aw_false rfl ?_
     refine aw_skip ?_
     refine ae_then ?_
     refine aw_reg [] [0, 3, 4, 5] [] [.ptr false [slPoint false s.Points], I n, I (((at_ s.Points i.toNat).X) - ((at_ s.Points ((i - 1).toNat)).X)), I i] [] [] (by kernel_rfl) hB trivial ?_
     refine ae_block 1 ?_
     refine ae_then ?_
     refine aw_reg [] [0, 3, 4, 5] [] [.ptr false [slPoint false s.Points], I n, I (((at_ s.Points i.toNat).X) - ((at_ s.Points ((i - 1).toNat)).X)), I (i + 1)] [] [inR .i64 (i + 1)] (by kernel_rfl) hB ⟨(inR_i64 (by omega) (by omega)), trivial⟩ ?_
     exact ae_again _ (by omega) ⟨n, (((at_ s.Points i.toNat).X) - ((at_ s.Points ((i - 1).toNat)).X)), (i + 1), rfl, (by omega), (by rw [revS_1 hi0.1, ← hr1, ← hr2]; omega), (by rw [revS_2 hi0.1, ← hr2]; omega), (by omega), rfl⟩
    ·by_cases h4 : 0 < (((at_ s.Points i.toNat).X) - ((at_ s.Points ((i - 1).toNat)).X))
     ·by_cases h5 : 0 < last
      ·refine aw_reg [(1, .dec true), (4, .dec true), (6, .dec true)] [0, 3, 5, 6, 44] [] [.ptr false [slPoint false s.Points], I n, I i, I (((at_ s.Points i.toNat).X) - ((at_ s.Points ((i - 1).toNat)).X)), Bv false] [] [last ≠ 0, 0 < (((at_ s.Points i.toNat).X) - ((at_ s.Points ((i - 1).toNat)).X)), 0 < last] (by kernel_rfl) hB ⟨h3, h4, h5, trivial⟩ ?_
       refine ae_then ?_
       refine aw_false rfl ?_
       refine aw_skip ?_
       refine ae_then ?_
       refine aw_reg [] [0, 3, 4, 5] [] [.ptr false [slPoint false s.Points], I n, I (((at_ s.Points i.toNat).X) - ((at_ s.Points ((i - 1).toNat)).X)), I i] [] [] (by kernel_rfl) hB trivial ?_
       refine ae_block 1 ?_
       refine ae_then ?_
       refine aw_reg [] [0, 3, 4, 5] [] [.ptr false [slPoint false s.Points], I n, I (((at_ s.Points i.toNat).X) - ((at_ s.Points ((i - 1).toNat)).X)), I (i + 1)] [] [inR .i64 (i + 1)] (by kernel_rfl) hB ⟨(inR_i64 (by omega) (by omega)), trivial⟩ ?_
       exact ae_again _ (by omega) ⟨n, (((at_ s.Points i.toNat).X) - ((at_ s.Points ((i - 1).toNat)).X)), (i + 1), rfl, (by omega), (by rw [revS_1 hi0.1, ← hr1, ← hr2]; omega), (by rw [revS_2 hi0.1, ← hr2]; omega), (by omega), rfl⟩
      ·refine aw_reg [(1, .dec true), (4, .dec true), (6, .dec false)] [0, 3, 5, 6, 44] [] [.ptr false [slPoint false s.Points], I n, I i, I (((at_ s.Points i.toNat).X) - ((at_ s.Points ((i - 1).toNat)).X)), Bv true] [] [last ≠ 0, 0 < (((at_ s.Points i.toNat).X) - ((at_ s.Points ((i - 1).toNat)).X)), ¬ (0 < last)] (by kernel_rfl) hB ⟨h3, h4, h5, trivial⟩ ?_
       refine ae_then ?_
       refine aw_true rfl ?_
       refine aw_reg [] [0, 3, 5, 6] [] [.ptr false [slPoint false s.Points], I (n + 1), I i, I (((at_ s.Points i.toNat).X) - ((at_ s.Points ((i - 1).toNat)).X))] [] [inR .i64 (n + 1)] (by kernel_rfl) hB ⟨(inR_i64 (by omega) (by omega)), trivial⟩ ?_
       refine ae_then ?_
       refine aw_reg [] [0, 3, 4, 5] [] [.ptr false [slPoint false s.Points], I (n + 1), I (((at_ s.Points i.toNat).X) - ((at_ s.Points ((i - 1).toNat)).X)), I i] [] [] (by kernel_rfl) hB trivial ?_
       refine ae_block 1 ?_
       refine ae_then ?_
       refine aw_reg [] [0, 3, 4, 5] [] [.ptr false [slPoint false s.Points], I (n + 1), I (((at_ s.Points i.toNat).X) - ((at_ s.Points ((i - 1).toNat)).X)), I (i + 1)] [] [inR .i64 (i + 1)] (by kernel_rfl) hB ⟨(inR_i64 (by omega) (by omega)), trivial⟩ ?_
       exact ae_again _ (by omega) ⟨(n + 1), (((at_ s.Points i.toNat).X) - ((at_ s.Points ((i - 1).toNat)).X)), (i + 1), rfl, (by omega), (by rw [revS_1 hi0.1, ← hr1, ← hr2]; omega), (by rw [revS_2 hi0.1, ← hr2]; omega), (by omega), rfl⟩
     ·by_cases h6 : 0 < last
      ·refine aw_reg [(1, .dec true), (4, .dec false), (6, .dec true)] [0, 3, 5, 6, 44] [] [.ptr false [slPoint false s.Points], I n, I i, I (((at_ s.Points i.toNat).X) - ((at_ s.Points ((i - 1).toNat)).X)), Bv true] [] [last ≠ 0, ¬ (0 < (((at_ s.Points i.toNat).X) - ((at_ s.Points ((i - 1).toNat)).X))), 0 < last] (by kernel_rfl) hB ⟨h3, h4, h6, trivial⟩ ?_
       refine ae_then ?_
       refine aw_true rfl ?_
       refine aw_reg [] [0, 3, 5, 6] [] [.ptr false [slPoint false s.Points], I (n + 1), I i, I (((at_ s.Points i.toNat).X) - ((at_ s.Points ((i - 1).toNat)).X))] [] [inR .i64 (n + 1)] (by kernel_rfl) hB ⟨(inR_i64 (by omega) (by omega)), trivial⟩ ?_
       refine ae_then ?_
       refine aw_reg [] [0, 3, 4, 5] [] [.ptr false [slPoint false s.Points], I (n + 1), I (((at_ s.Points i.toNat).X) - ((at_ s.Points ((i - 1).toNat)).X)), I i] [] [] (by kernel_rfl) hB trivial ?_
       refine ae_block 1 ?_
       refine ae_then ?_
       refine aw_reg [] [0, 3, 4, 5] [] [.ptr false [slPoint false s.Points], I (n + 1), I (((at_ s.Points i.toNat).X) - ((at_ s.Points ((i - 1).toNat)).X)), I (i + 1)] [] [inR .i64 (i + 1)] (by kernel_rfl) hB ⟨(inR_i64 (by omega) (by omega)), trivial⟩ ?_
       exact ae_again _ (by omega) ⟨(n + 1), (((at_ s.Points i.toNat).X) - ((at_ s.Points ((i - 1).toNat)).X)), (i + 1), rfl, (by omega), (by rw [revS_1 hi0.1, ← hr1, ← hr2]; omega), (by rw [revS_2 hi0.1, ← hr2]; omega), (by omega), rfl⟩
      ·refine aw_reg [(1, .dec true), (4, .dec false), (6, .dec false)] [0, 3, 5, 6, 44] [] [.ptr false [slPoint false s.Points], I n, I i, I (((at_ s.Points i.toNat).X) - ((at_ s.Points ((i - 1).toNat)).X)), Bv false] [] [last ≠ 0, ¬ (0 < (((at_ s.Points i.toNat).X) - ((at_ s.Points ((i - 1).toNat)).X))), ¬ (0 < last)] (by kernel_rfl) hB ⟨h3, h4, h6, trivial⟩ ?_
       refine ae_then ?_
       refine aw_false rfl ?_
       refine aw_skip ?_
       refine ae_then ?_
       refine aw_reg [] [0, 3, 4, 5] [] [.ptr false [slPoint false s.Points], I n, I (((at_ s.Points i.toNat).X) - ((at_ s.Points ((i - 1).toNat)).X)), I i] [] [] (by kernel_rfl) hB trivial ?_
       refine ae_block 1 ?_
       refine ae_then ?_
       refine aw_reg [] [0, 3, 4, 5] [] [.ptr false [slPoint false s.Points], I n, I (((at_ s.Points i.toNat).X) - ((at_ s.Points ((i - 1).toNat)).X)), I (i + 1)] [] [inR .i64 (i + 1)] (by kernel_rfl) hB ⟨(inR_i64 (by omega) (by omega)), trivial⟩ ?_
       exact ae_again _ (by omega) ⟨n, (((at_ s.Points i.toNat).X) - ((at_ s.Points ((i - 1).toNat)).X)), (i + 1), rfl, (by omega), (by rw [revS_1 hi0.1, ← hr1, ← hr2]; omega), (by rw [revS_2 hi0.1, ← hr2]; omega), (by omega), rfl⟩
  ·have hie : i.toNat = s.Points.length := by omega
   rw [hie] at hr1
   refine aw_reg [(6, .dec false)] [0, 3, 4, 5, 13] [] [.ptr false [slPoint false s.Points], I n, I last, I i, Bv false] [] [¬ (i < (s.Points.length : Int))] (by kernel_rfl) hB ⟨h1, trivial⟩ ?_
   refine ae_then ?_
   refine aw_false rfl ?_
   refine aw_exit ?_
   refine ae_exit_then ?_
   refine ae_exit_then ?_
   refine ae_exit_same ?_
   refine ae_then ?_
   refine aw_seq ?_
   refine aw_reg [] [2] [] [I n] [] [] (by kernel_rfl) hB trivial ?_
   refine ae_then ?_
   refine aw_ret ?_
   refine ae_ret hB (I n) (by kernel_rfl) (.inl (by rw [hr1])) rfl (fun _ => trivial)


-- spec.l05Size
theorem l05Size_ok (n : Int) (hn : -9223372036854775807 ≤ n ∧ n ≤ 9223372036854775807) : Con Tryd.prog 102 [I n] true (I (n.natAbs : Int)) := by
  refine fn_ok (fn := Tryd.f102) (nt := 8) Tryd.func102 rfl rfl rfl rfl (by simp [taggedL, tagged]) fun B hB => ?_
  refine aw_seq ?_
  refine aw_reg [] [0] [] [I n] [] [] (by kernel_rfl) hB trivial ?_
  refine ae_then ?_
  refine aw_seq ?_
  refine aw_seq ?_
  by_cases h1 : n < 0
  ·refine aw_reg [(1, .dec true)] [0, 4] [] [I n, Bv true] [] [n < 0] (by kernel_rfl) hB ⟨h1, trivial⟩ ?_
   refine ae_then ?_
   refine aw_true rfl ?_
   refine aw_seq ?_
   refine aw_reg [] [2] [] [I (-n)] [] [inR .i64 (-n)] (by kernel_rfl) hB ⟨(inR_i64 (by omega) (by omega)), trivial⟩ ?_
   refine ae_then ?_
   refine aw_ret ?_
   refine ae_ret_then ?_
   refine ae_ret hB (I (-n)) (by kernel_rfl) (.inl (by refine congrArg I ?_; omega)) rfl (fun _ => trivial)
  ·refine aw_reg [(1, .dec false)] [0, 4] [] [I n, Bv false] [] [¬ (n < 0)] (by kernel_rfl) hB ⟨h1, trivial⟩ ?_
   refine ae_then ?_
   refine aw_false rfl ?_
   refine aw_skip ?_
   refine ae_then ?_
   refine aw_seq ?_
   refine aw_reg [] [2] [] [I n] [] [] (by kernel_rfl) hB trivial ?_
   refine ae_then ?_
   refine aw_ret ?_
   refine ae_ret hB (I n) (by kernel_rfl) (.inl (by refine congrArg I ?_; omega)) rfl (fun _ => trivial)


-- spec.l05Sector
theorem l05Sector_ok (dx : Int) (dy : Int) (hd : (-4095 ≤ dx ∧ dx ≤ 4095) ∧ -4095 ≤ dy ∧ dy ≤ 4095) : Con Tryd.prog 121 [I dx, I dy] true (I (dirI dx dy)) := by
  have hx2 := two_sq (x := (dx.natAbs : Int)) (by omega) (by omega)
  have hy2 := two_sq (x := (dy.natAbs : Int)) (by omega) (by omega)
  have hs2 := sq_bd (x := (dx.natAbs : Int) + (dy.natAbs : Int)) (B := 8190) (by omega) (by omega)
  have hz := @dir_zero dx dy
  refine fn_ok (fn := Tryd.f121) (nt := 54) Tryd.func121 rfl rfl rfl rfl (by simp [taggedL, tagged]) fun B hB => ?_
  refine aw_seq ?_
  refine aw_reg [] [0, 1] [] [I dx, I dy] [] [] (by kernel_rfl) hB trivial ?_
  refine ae_then ?_
  refine aw_seq ?_
  refine aw_reg [(1, .call [(true, I dx)] true (I (dx.natAbs : Int)))] [0, 1, 5] [] [I dx, I dy, I (dx.natAbs : Int)] [] [Con Tryd.prog 102 [I dx] true (I (dx.natAbs : Int)) ∧ ((I dx : AV) = I dx) ∧ True] (by kernel_rfl) hB ⟨⟨(l05Size_ok dx (by omega)), rfl, trivial⟩, trivial⟩ ?_
  refine ae_then ?_
  refine aw_seq ?_
  refine aw_reg [(1, .call [(true, I dy)] true (I (dy.natAbs : Int)))] [0, 1, 5, 6] [] [I dx, I dy, I (dx.natAbs : Int), I (dy.natAbs : Int)] [] [Con Tryd.prog 102 [I dy] true (I (dy.natAbs : Int)) ∧ ((I dy : AV) = I dy) ∧ True] (by kernel_rfl) hB ⟨⟨(l05Size_ok dy (by omega)), rfl, trivial⟩, trivial⟩ ?_
  refine ae_then ?_
  refine aw_seq ?_
  refine aw_reg [] [0, 1, 5, 6, 7] [] [I dx, I dy, I (dx.natAbs : Int), I (dy.natAbs : Int), I (((dx.natAbs : Int) + (dy.natAbs : Int)) * ((dx.natAbs : Int) + (dy.natAbs : Int)))] [] [inR .i64 ((dx.natAbs : Int) + (dy.natAbs : Int)), inR .i64 ((dx.natAbs : Int) + (dy.natAbs : Int)), inR .i64 (((dx.natAbs : Int) + (dy.natAbs : Int)) * ((dx.natAbs : Int) + (dy.natAbs : Int)))] (by kernel_rfl) hB ⟨(inR_i64 (by omega) (by omega)), (inR_i64 (by omega) (by omega)), (inR_i64 (by omega) (by omega)), trivial⟩ ?_
  refine ae_then ?_
  refine aw_seq ?_
  refine aw_block ?_
  refine aw_seq ?_
  by_cases h1 : (((dx.natAbs : Int) + (dy.natAbs : Int)) * ((dx.natAbs : Int) + (dy.natAbs : Int))) ≤ ((2 * (dx.natAbs : Int)) * (dx.natAbs : Int))
  ·refine aw_reg [(5, .dec true)] [0, 1, 6, 7, 19] [] [I dx, I dy, I (dy.natAbs : Int), I (((dx.natAbs : Int) + (dy.natAbs : Int)) * ((dx.natAbs : Int) + (dy.natAbs : Int))), Bv true] [] [inR .i64 (2 * (dx.natAbs : Int)), inR .i64 ((2 * (dx.natAbs : Int)) * (dx.natAbs : Int)), (((dx.natAbs : Int) + (dy.natAbs : Int)) * ((dx.natAbs : Int) + (dy.natAbs : Int))) ≤ ((2 * (dx.natAbs : Int)) * (dx.natAbs : Int))] (by kernel_rfl) hB ⟨(inR_i64 (by omega) (by omega)), (inR_i64 (by omega) (by omega)), h1, trivial⟩ ?_
   refine ae_then ?_
   refine aw_true rfl ?_
   refine aw_seq ?_
   refine aw_seq ?_
   by_cases h2 : 0 < dx
   ·refine aw_reg [(1, .dec true)] [27] [] [Bv true] [] [0 < dx] (by kernel_rfl) hB ⟨h2, trivial⟩ ?_
    refine ae_then ?_
    refine aw_true rfl ?_
    refine aw_seq ?_
    refine aw_reg [] [4] [] [I 0] [] [] (by kernel_rfl) hB trivial ?_
    refine ae_then ?_
    refine aw_ret ?_
    refine ae_ret_then (ae_ret_block (ae_ret_then ?_))
    refine ae_ret hB (I 0) (by kernel_rfl) (.inl (by refine congrArg I ?_; unfold dirI; (repeat' split) <;> first | rfl | omega)) rfl (fun _ => trivial)
   ·refine aw_reg [(1, .dec false)] [27] [] [Bv false] [] [¬ (0 < dx)] (by kernel_rfl) hB ⟨h2, trivial⟩ ?_
    refine ae_then ?_
    refine aw_false rfl ?_
    refine aw_skip ?_
    refine ae_then ?_
    refine aw_seq ?_
    refine aw_reg [] [4] [] [I 4] [] [] (by kernel_rfl) hB trivial ?_
    refine ae_then ?_
    refine aw_ret ?_
    refine ae_ret_block (ae_ret_then ?_)
    refine ae_ret hB (I 4) (by kernel_rfl) (.inl (by refine congrArg I ?_; unfold dirI; (repeat' split) <;> first | rfl | omega)) rfl (fun _ => trivial)
  ·refine aw_reg [(5, .dec false)] [0, 1, 6, 7, 19] [] [I dx, I dy, I (dy.natAbs : Int), I (((dx.natAbs : Int) + (dy.natAbs : Int)) * ((dx.natAbs : Int) + (dy.natAbs : Int))), Bv false] [] [inR .i64 (2 * (dx.natAbs : Int)), inR .i64 ((2 * (dx.natAbs : Int)) * (dx.natAbs : Int)), ¬ ((((dx.natAbs : Int) + (dy.natAbs : Int)) * ((dx.natAbs : Int) + (dy.natAbs : Int))) ≤ ((2 * (dx.natAbs : Int)) * (dx.natAbs : Int)))] (by kernel_rfl) hB ⟨(inR_i64 (by omega) (by omega)), (inR_i64 (by omega) (by omega)), h1, trivial⟩ ?_
   refine ae_then ?_
   refine aw_false rfl ?_
   refine aw_seq ?_
   by_cases h3 : (((dx.natAbs : Int) + (dy.natAbs : Int)) * ((dx.natAbs : Int) + (dy.natAbs : Int))) ≤ ((2 * (dy.natAbs : Int)) * (dy.natAbs : Int))
   ·refine aw_reg [(5, .dec true)] [0, 1, 28] [] [I dx, I dy, Bv true] [] [inR .i64 (2 * (dy.natAbs : Int)), inR .i64 ((2 * (dy.natAbs : Int)) * (dy.natAbs : Int)), (((dx.natAbs : Int) + (dy.natAbs : Int)) * ((dx.natAbs : Int) + (dy.natAbs : Int))) ≤ ((2 * (dy.natAbs : Int)) * (dy.natAbs : Int))] (by kernel_rfl) hB ⟨(inR_i64 (by omega) (by omega)), (inR_i64 (by omega) (by omega)), h3, trivial⟩ ?_
    refine ae_then ?_
    refine aw_true rfl ?_
    refine aw_seq ?_
    refine aw_seq ?_
    by_cases h4 : 0 < dy
    ·refine aw_reg [(1, .dec true)] [36] [] [Bv true] [] [0 < dy] (by kernel_rfl) hB ⟨h4, trivial⟩ ?_
     refine ae_then ?_
     refine aw_true rfl ?_
     refine aw_seq ?_
     refine aw_reg [] [4] [] [I 2] [] [] (by kernel_rfl) hB trivial ?_
     refine ae_then ?_
     refine aw_ret ?_
     refine ae_ret_then (ae_ret_block (ae_ret_then ?_))
     refine ae_ret hB (I 2) (by kernel_rfl) (.inl (by refine congrArg I ?_; unfold dirI; (repeat' split) <;> first | rfl | omega)) rfl (fun _ => trivial)
    ·refine aw_reg [(1, .dec false)] [36] [] [Bv false] [] [¬ (0 < dy)] (by kernel_rfl) hB ⟨h4, trivial⟩ ?_
     refine ae_then ?_
     refine aw_false rfl ?_
     refine aw_skip ?_
     refine ae_then ?_
     refine aw_seq ?_
     refine aw_reg [] [4] [] [I 6] [] [] (by kernel_rfl) hB trivial ?_
     refine ae_then ?_
     refine aw_ret ?_
     refine ae_ret_block (ae_ret_then ?_)
     refine ae_ret hB (I 6) (by kernel_rfl) (.inl (by refine congrArg I ?_; unfold dirI; (repeat' split) <;> first | rfl | omega)) rfl (fun _ => trivial)
   ·refine aw_reg [(5, .dec false)] [0, 1, 28] [] [I dx, I dy, Bv false] [] [inR .i64 (2 * (dy.natAbs : Int)), inR .i64 ((2 * (dy.natAbs : Int)) * (dy.natAbs : Int)), ¬ ((((dx.natAbs : Int) + (dy.natAbs : Int)) * ((dx.natAbs : Int) + (dy.natAbs : Int))) ≤ ((2 * (dy.natAbs : Int)) * (dy.natAbs : Int)))] (by kernel_rfl) hB ⟨(inR_i64 (by omega) (by omega)), (inR_i64 (by omega) (by omega)), h3, trivial⟩ ?_
    refine ae_then ?_
    refine aw_false rfl ?_
    refine aw_seq ?_
    by_cases h5 : 0 < dx
    ·by_cases h6 : 0 < dy
     ·refine aw_reg [(1, .dec true), (4, .dec true)] [0, 1, 37] [] [I dx, I dy, Bv true] [] [0 < dx, 0 < dy] (by kernel_rfl) hB ⟨h5, h6, trivial⟩ ?_
      refine ae_then ?_
      refine aw_true rfl ?_
      refine aw_seq ?_
      refine aw_reg [] [4] [] [I 1] [] [] (by kernel_rfl) hB trivial ?_
      refine ae_then ?_
      refine aw_ret ?_
      refine ae_ret_block (ae_ret_then ?_)
      refine ae_ret hB (I 1) (by kernel_rfl) (.inl (by refine congrArg I ?_; unfold dirI; (repeat' split) <;> first | rfl | omega)) rfl (fun _ => trivial)
     ·refine aw_reg [(1, .dec true), (4, .dec false)] [0, 1, 37] [] [I dx, I dy, Bv false] [] [0 < dx, ¬ (0 < dy)] (by kernel_rfl) hB ⟨h5, h6, trivial⟩ ?_
      refine ae_then ?_
      refine aw_false rfl ?_
      refine aw_seq ?_
      by_cases h7 : dx < 0
      ·refine aw_reg [(1, .dec true), (4, .dec false)] [0, 44] [] [I dx, Bv false] [] [dx < 0, ¬ (0 < dy)] (by kernel_rfl) hB ⟨h7, h6, trivial⟩ ?_
       refine ae_then ?_
       refine aw_false rfl ?_
       refine aw_seq ?_
       refine aw_reg [(1, .dec true)] [51] [] [Bv true] [] [dx < 0] (by kernel_rfl) hB ⟨h7, trivial⟩ ?_
       refine ae_then ?_
       refine aw_true rfl ?_
       refine aw_seq ?_
       refine aw_reg [] [4] [] [I 5] [] [] (by kernel_rfl) hB trivial ?_
       refine ae_then ?_
       refine aw_ret ?_
       refine ae_ret_block (ae_ret_then ?_)
       refine ae_ret hB (I 5) (by kernel_rfl) (.inl (by refine congrArg I ?_; unfold dirI; (repeat' split) <;> first | rfl | omega)) rfl (fun _ => trivial)
      ·refine aw_reg [(1, .dec false)] [0, 44] [] [I dx, Bv false] [] [¬ (dx < 0)] (by kernel_rfl) hB ⟨h7, trivial⟩ ?_
       refine ae_then ?_
       refine aw_false rfl ?_
       refine aw_seq ?_
       refine aw_reg [(1, .dec false)] [51] [] [Bv false] [] [¬ (dx < 0)] (by kernel_rfl) hB ⟨h7, trivial⟩ ?_
       refine ae_then ?_
       refine aw_false rfl ?_
       refine aw_skip ?_
       refine ae_block 0 ?_
       refine ae_then ?_
       refine aw_seq ?_
       refine aw_reg [] [4] [] [I 7] [] [] (by kernel_rfl) hB trivial ?_
       refine ae_then ?_
       refine aw_ret ?_
       refine ae_ret hB (I 7) (by kernel_rfl) (.inl (by refine congrArg I ?_; unfold dirI; (repeat' split) <;> first | rfl | omega)) rfl (fun _ => trivial)
    ·refine aw_reg [(1, .dec false)] [0, 1, 37] [] [I dx, I dy, Bv false] [] [¬ (0 < dx)] (by kernel_rfl) hB ⟨h5, trivial⟩ ?_
     refine ae_then ?_
     refine aw_false rfl ?_
     refine aw_seq ?_
     by_cases h8 : dx < 0
     ·by_cases h9 : 0 < dy
      ·refine aw_reg [(1, .dec true), (4, .dec true)] [0, 44] [] [I dx, Bv true] [] [dx < 0, 0 < dy] (by kernel_rfl) hB ⟨h8, h9, trivial⟩ ?_
       refine ae_then ?_
       refine aw_true rfl ?_
       refine aw_seq ?_
       refine aw_reg [] [4] [] [I 3] [] [] (by kernel_rfl) hB trivial ?_
       refine ae_then ?_
       refine aw_ret ?_
       refine ae_ret_block (ae_ret_then ?_)
       refine ae_ret hB (I 3) (by kernel_rfl) (.inl (by refine congrArg I ?_; unfold dirI; (repeat' split) <;> first | rfl | omega)) rfl (fun _ => trivial)
      ·refine aw_reg [(1, .dec true), (4, .dec false)] [0, 44] [] [I dx, Bv false] [] [dx < 0, ¬ (0 < dy)] (by kernel_rfl) hB ⟨h8, h9, trivial⟩ ?_
       refine ae_then ?_
       refine aw_false rfl ?_
       refine aw_seq ?_
       refine aw_reg [(1, .dec true)] [51] [] [Bv true] [] [dx < 0] (by kernel_rfl) hB ⟨h8, trivial⟩ ?_
       refine ae_then ?_
       refine aw_true rfl ?_
       refine aw_seq ?_
       refine aw_reg [] [4] [] [I 5] [] [] (by kernel_rfl) hB trivial ?_
       refine ae_then ?_
       refine aw_ret ?_
       refine ae_ret_block (ae_ret_then ?_)
       refine ae_ret hB (I 5) (by kernel_rfl) (.inl (by refine congrArg I ?_; unfold dirI; (repeat' split) <;> first | rfl | omega)) rfl (fun _ => trivial)
     ·refine aw_reg [(1, .dec false)] [0, 44] [] [I dx, Bv false] [] [¬ (dx < 0)] (by kernel_rfl) hB ⟨h8, trivial⟩ ?_
      refine ae_then ?_
      refine aw_false rfl ?_
      refine aw_seq ?_
      refine aw_reg [(1, .dec false)] [51] [] [Bv false] [] [¬ (dx < 0)] (by kernel_rfl) hB ⟨h8, trivial⟩ ?_
      refine ae_then ?_
      refine aw_false rfl ?_
      refine aw_skip ?_
      refine ae_block 0 ?_
      refine ae_then ?_
      refine aw_seq ?_
      refine aw_reg [] [4] [] [I 7] [] [] (by kernel_rfl) hB trivial ?_
      refine ae_then ?_
      refine aw_ret ?_
      refine ae_ret hB (I 7) (by kernel_rfl) (.inl (by refine congrArg I ?_; unfold dirI; (repeat' split) <;> first | rfl | omega)) rfl (fun _ => trivial)

end Go.Proofs.YtebcbkejkpjeoaaDoor.Ax
