/- The statement FnExactRunGestures: contracts of what it reaches, and its proof. No conditions. -/
import Derived.Test.YtmchblafmhpegaaDoorAxERunGestures2
import Derived.LaidMore
import Derived.Lay
import Derived.OpenShut
import Derived.SevenTiedAt
import Derived.Shelf.Strings.SlTrimAscii
import Derived.Stop.Joined
namespace Go.Proofs.YtmchblafmhpegaaDoor.Ax
open Go.RowKit Go.ChangeShapes Go.WideShapes
set_option linter.unusedVariables false
set_option linter.unusedSimpArgs false


-- impl.gestureOf
theorem gestureOf_ok (s : Stroke) (ok : okStroke' s = true) : Con Tryd.prog 45 [.agg [slPoint false s.Points]] true (I (gestI s)) := by
  have hln := okS_len ok
  have hpf := okS_at ok (j := 0) (by omega)
  have hpl := okS_at ok (j := s.Points.length - 1) (by omega)
  have hpf' := okP_iff.1 hpf
  have hpl' := okP_iff.1 hpl
  have hbx := boxS_all ok
  unfold okBox at hbx
  have hsb := sumS_bd ok s.Points.length (Nat.le_refl _)
  have heb := ends_bd ok
  have hle : ((s.Points.length : Int) - 1).toNat = s.Points.length - 1 := by omega
  have hplz : okP (at_ s.Points ((s.Points.length : Int) - 1).toNat) = true := by rw [hle]; exact hpl
  have hplz' := okP_iff.1 hplz
  have heb2 := segI_bd hpf hplz
  have heb3 := segI_bd hpf hpl
  have hbtb := bendT_bd ok
  refine fn_ok (fn := Tryd.f45) (nt := 86) Tryd.func45 rfl rfl rfl rfl (by simp [taggedL, tagged, tagPoint]) fun B hB => ?_
  refine aw_lens (x := .agg [slPoint false s.Points]) 0 rfl (fun len_s => ?_)
  simp [LenOK, LenL, cPoint, fPoint, slPoint] at len_s
  refine aw_seq ?_
  refine aw_reg [(0, .new 1)] [1] [1] [.ref 1 0] [some (.box [slPoint false s.Points])] [] (by kernel_rfl) hB trivial ?_
  refine ae_then ?_
  refine aw_seq ?_
  refine aw_reg [(1, .call [(true, .agg [slPoint false s.Points])] true (I (sumS s.Points s.Points.length))), (3, .call [(true, .agg [slPoint false s.Points])] true (I ((revS s.Points s.Points.length).1)))] [1, 3, 4] [1] [.ref 1 0, I (sumS s.Points s.Points.length), I ((revS s.Points s.Points.length).1)] [some (.box [slPoint false s.Points])] [Con Tryd.prog 60 [.agg [slPoint false s.Points]] true (I (sumS s.Points s.Points.length)) ∧ ((.agg [slPoint false s.Points] : AV) = .agg [slPoint false s.Points]) ∧ True, Con Tryd.prog 61 [.agg [slPoint false s.Points]] true (I ((revS s.Points s.Points.length).1)) ∧ ((.agg [slPoint false s.Points] : AV) = .agg [slPoint false s.Points]) ∧ True] (by kernel_rfl) hB ⟨⟨(strokeLength_ok s ok), rfl, trivial⟩, ⟨(reversalsOf_ok s ok), rfl, trivial⟩, trivial⟩ ?_
  refine ae_then ?_
  refine aw_seq ?_
  refine aw_reg [(1, .call [(true, .agg [slPoint false s.Points])] true (.tup [I (bendT s), I 0]))] [1, 3, 4, 5] [1] [.ref 1 0, I (sumS s.Points s.Points.length), I ((revS s.Points s.Points.length).1), I (bendT s)] [some (.box [slPoint false s.Points])] [Con Tryd.prog 62 [.agg [slPoint false s.Points]] true (.tup [I (bendT s), I 0]) ∧ ((.agg [slPoint false s.Points] : AV) = .agg [slPoint false s.Points]) ∧ True] (by kernel_rfl) hB ⟨⟨(BendOf_ok s ok), rfl, trivial⟩, trivial⟩ ?_
  refine ae_then ?_
  refine aw_seq ?_
  refine aw_reg [(1, .call [(true, .agg [slPoint false s.Points])] true (.tup [I (strI s), I 0]))] [1, 3, 4, 5, 7] [1] [.ref 1 0, I (sumS s.Points s.Points.length), I ((revS s.Points s.Points.length).1), I (bendT s), I (strI s)] [some (.box [slPoint false s.Points])] [Con Tryd.prog 63 [.agg [slPoint false s.Points]] true (.tup [I (strI s), I 0]) ∧ ((.agg [slPoint false s.Points] : AV) = .agg [slPoint false s.Points]) ∧ True] (by kernel_rfl) hB ⟨⟨(StraightOf_ok s ok), rfl, trivial⟩, trivial⟩ ?_
  refine ae_then ?_
  refine aw_seq ?_
  refine aw_reg [(1, .call [(true, .agg [slPoint false s.Points])] true (.agg [I ((at_ s.Points 0).X), I ((at_ s.Points 0).Y), I ((at_ s.Points 0).T)])), (3, .call [(true, .agg [slPoint false s.Points])] true (.agg [I ((at_ s.Points (s.Points.length - 1)).X), I ((at_ s.Points (s.Points.length - 1)).Y), I ((at_ s.Points (s.Points.length - 1)).T)])), (5, .call [(true, .agg [slPoint false s.Points])] true (.agg [I ((boxS s.Points s.Points.length).X1), I ((boxS s.Points s.Points.length).Y1), I ((boxS s.Points s.Points.length).X2), I ((boxS s.Points s.Points.length).Y2)])), (6, .new 9), (7, .new 10), (8, .new 11)] [3, 4, 5, 7, 9, 10, 11] [9, 10, 11] [I (sumS s.Points s.Points.length), I ((revS s.Points s.Points.length).1), I (bendT s), I (strI s), .ref 9 0, .ref 10 0, .ref 11 0] [some (.box [I ((at_ s.Points 0).X), I ((at_ s.Points 0).Y), I ((at_ s.Points 0).T)]), some (.box [I ((at_ s.Points (s.Points.length - 1)).X), I ((at_ s.Points (s.Points.length - 1)).Y), I ((at_ s.Points (s.Points.length - 1)).T)]), some (.box [I ((boxS s.Points s.Points.length).X1), I ((boxS s.Points s.Points.length).Y1), I ((boxS s.Points s.Points.length).X2), I ((boxS s.Points s.Points.length).Y2)])] [Con Tryd.prog 64 [.agg [slPoint false s.Points]] true (.agg [I ((at_ s.Points 0).X), I ((at_ s.Points 0).Y), I ((at_ s.Points 0).T)]) ∧ ((.agg [slPoint false s.Points] : AV) = .agg [slPoint false s.Points]) ∧ True, Con Tryd.prog 65 [.agg [slPoint false s.Points]] true (.agg [I ((at_ s.Points (s.Points.length - 1)).X), I ((at_ s.Points (s.Points.length - 1)).Y), I ((at_ s.Points (s.Points.length - 1)).T)]) ∧ ((.agg [slPoint false s.Points] : AV) = .agg [slPoint false s.Points]) ∧ True, Con Tryd.prog 46 [.agg [slPoint false s.Points]] true (.agg [I ((boxS s.Points s.Points.length).X1), I ((boxS s.Points s.Points.length).Y1), I ((boxS s.Points s.Points.length).X2), I ((boxS s.Points s.Points.length).Y2)]) ∧ ((.agg [slPoint false s.Points] : AV) = .agg [slPoint false s.Points]) ∧ True] (by kernel_rfl) hB ⟨⟨(firstOf_ok s ok), rfl, trivial⟩, ⟨(lastOf_ok s ok), rfl, trivial⟩, ⟨(boxOfStroke_ok s ok), rfl, trivial⟩, trivial⟩ ?_
  refine ae_then ?_
  refine aw_seq ?_
  refine aw_reg [] [3, 4, 5, 7, 9, 10, 11, 12] [9, 10, 11] [I (sumS s.Points s.Points.length), I ((revS s.Points s.Points.length).1), I (bendT s), I (strI s), .ref 9 0, .ref 10 0, .ref 11 0, I (((boxS s.Points s.Points.length).Y2) - ((boxS s.Points s.Points.length).Y1))] [some (.box [I ((at_ s.Points 0).X), I ((at_ s.Points 0).Y), I ((at_ s.Points 0).T)]), some (.box [I ((at_ s.Points (s.Points.length - 1)).X), I ((at_ s.Points (s.Points.length - 1)).Y), I ((at_ s.Points (s.Points.length - 1)).T)]), some (.box [I ((boxS s.Points s.Points.length).X1), I ((boxS s.Points s.Points.length).Y1), I ((boxS s.Points s.Points.length).X2), I ((boxS s.Points s.Points.length).Y2)])] [inR .i64 (((boxS s.Points s.Points.length).Y2) - ((boxS s.Points s.Points.length).Y1))] (by kernel_rfl) hB ⟨(inR_i64 (by omega) (by omega)), trivial⟩ ?_
  refine ae_then ?_
  refine aw_seq ?_
  refine aw_block ?_
  refine aw_seq ?_
  by_cases h1 : (sumS s.Points s.Points.length) ≤ 160
  · refine aw_reg [(1, .dec true)] [3, 4, 5, 7, 9, 10, 11, 12, 38] [9, 10, 11] [I (sumS s.Points s.Points.length), I ((revS s.Points s.Points.length).1), I (bendT s), I (strI s), .ref 9 0, .ref 10 0, .ref 11 0, I (((boxS s.Points s.Points.length).Y2) - ((boxS s.Points s.Points.length).Y1)), Bv true] [some (.box [I ((at_ s.Points 0).X), I ((at_ s.Points 0).Y), I ((at_ s.Points 0).T)]), some (.box [I ((at_ s.Points (s.Points.length - 1)).X), I ((at_ s.Points (s.Points.length - 1)).Y), I ((at_ s.Points (s.Points.length - 1)).T)]), some (.box [I ((boxS s.Points s.Points.length).X1), I ((boxS s.Points s.Points.length).Y1), I ((boxS s.Points s.Points.length).X2), I ((boxS s.Points s.Points.length).Y2)])] [(sumS s.Points s.Points.length) ≤ 160] (by kernel_rfl) hB ⟨h1, trivial⟩ ?_
    refine ae_then ?_
    refine aw_true rfl ?_
    refine aw_seq ?_
    refine aw_reg [] [2] [] [I 1] [] [] (by kernel_rfl) hB trivial ?_
    refine ae_then ?_
    refine aw_ret ?_
    refine ae_ret_block (ae_ret_then ?_)
    refine ae_ret hB (I 1) (by kernel_rfl) (.inl (by refine congrArg I ?_; unfold gestI endsI caretB; simp_all [hle]; try omega)) rfl (fun _ => trivial)
  · refine aw_reg [(1, .dec false)] [3, 4, 5, 7, 9, 10, 11, 12, 38] [9, 10, 11] [I (sumS s.Points s.Points.length), I ((revS s.Points s.Points.length).1), I (bendT s), I (strI s), .ref 9 0, .ref 10 0, .ref 11 0, I (((boxS s.Points s.Points.length).Y2) - ((boxS s.Points s.Points.length).Y1)), Bv false] [some (.box [I ((at_ s.Points 0).X), I ((at_ s.Points 0).Y), I ((at_ s.Points 0).T)]), some (.box [I ((at_ s.Points (s.Points.length - 1)).X), I ((at_ s.Points (s.Points.length - 1)).Y), I ((at_ s.Points (s.Points.length - 1)).T)]), some (.box [I ((boxS s.Points s.Points.length).X1), I ((boxS s.Points s.Points.length).Y1), I ((boxS s.Points s.Points.length).X2), I ((boxS s.Points s.Points.length).Y2)])] [¬ ((sumS s.Points s.Points.length) ≤ 160)] (by kernel_rfl) hB ⟨h1, trivial⟩ ?_
    refine ae_then ?_
    refine aw_false rfl ?_
    refine aw_seq ?_
    by_cases h2 : 3 ≤ ((revS s.Points s.Points.length).1)
    · refine aw_reg [(1, .dec true)] [3, 4, 5, 7, 9, 10, 11, 12, 41] [9, 10, 11] [I (sumS s.Points s.Points.length), I ((revS s.Points s.Points.length).1), I (bendT s), I (strI s), .ref 9 0, .ref 10 0, .ref 11 0, I (((boxS s.Points s.Points.length).Y2) - ((boxS s.Points s.Points.length).Y1)), Bv true] [some (.box [I ((at_ s.Points 0).X), I ((at_ s.Points 0).Y), I ((at_ s.Points 0).T)]), some (.box [I ((at_ s.Points (s.Points.length - 1)).X), I ((at_ s.Points (s.Points.length - 1)).Y), I ((at_ s.Points (s.Points.length - 1)).T)]), some (.box [I ((boxS s.Points s.Points.length).X1), I ((boxS s.Points s.Points.length).Y1), I ((boxS s.Points s.Points.length).X2), I ((boxS s.Points s.Points.length).Y2)])] [3 ≤ ((revS s.Points s.Points.length).1)] (by kernel_rfl) hB ⟨h2, trivial⟩ ?_
      refine ae_then ?_
      refine aw_true rfl ?_
      refine aw_seq ?_
      refine aw_reg [] [2] [] [I 2] [] [] (by kernel_rfl) hB trivial ?_
      refine ae_then ?_
      refine aw_ret ?_
      refine ae_ret_block (ae_ret_then ?_)
      refine ae_ret hB (I 2) (by kernel_rfl) (.inl (by refine congrArg I ?_; unfold gestI endsI caretB; simp_all [hle]; try omega)) rfl (fun _ => trivial)
    · refine aw_reg [(1, .dec false)] [3, 4, 5, 7, 9, 10, 11, 12, 41] [9, 10, 11] [I (sumS s.Points s.Points.length), I ((revS s.Points s.Points.length).1), I (bendT s), I (strI s), .ref 9 0, .ref 10 0, .ref 11 0, I (((boxS s.Points s.Points.length).Y2) - ((boxS s.Points s.Points.length).Y1)), Bv false] [some (.box [I ((at_ s.Points 0).X), I ((at_ s.Points 0).Y), I ((at_ s.Points 0).T)]), some (.box [I ((at_ s.Points (s.Points.length - 1)).X), I ((at_ s.Points (s.Points.length - 1)).Y), I ((at_ s.Points (s.Points.length - 1)).T)]), some (.box [I ((boxS s.Points s.Points.length).X1), I ((boxS s.Points s.Points.length).Y1), I ((boxS s.Points s.Points.length).X2), I ((boxS s.Points s.Points.length).Y2)])] [¬ (3 ≤ ((revS s.Points s.Points.length).1))] (by kernel_rfl) hB ⟨h2, trivial⟩ ?_
      refine ae_then ?_
      refine aw_false rfl ?_
      refine aw_seq ?_
      by_cases h3 : 6 ≤ ((bendT s).natAbs : Int)
      · by_cases h4 : (4 * (segI (at_ s.Points 0) (at_ s.Points (s.Points.length - 1)))) ≤ (sumS s.Points s.Points.length)
        · refine aw_reg [(1, .call [(true, I (bendT s))] true (I ((bendT s).natAbs : Int))), (2, .dec true), (6, .call [(true, .agg [I ((at_ s.Points 0).X), I ((at_ s.Points 0).Y), I ((at_ s.Points 0).T)]), (true, .agg [I ((at_ s.Points (s.Points.length - 1)).X), I ((at_ s.Points (s.Points.length - 1)).Y), I ((at_ s.Points (s.Points.length - 1)).T)])] true (I (segI (at_ s.Points 0) (at_ s.Points (s.Points.length - 1))))), (9, .dec true)] [4, 7, 9, 10, 11, 12, 44] [9, 10, 11] [I ((revS s.Points s.Points.length).1), I (strI s), .ref 9 0, .ref 10 0, .ref 11 0, I (((boxS s.Points s.Points.length).Y2) - ((boxS s.Points s.Points.length).Y1)), Bv true] [some (.box [I ((at_ s.Points 0).X), I ((at_ s.Points 0).Y), I ((at_ s.Points 0).T)]), some (.box [I ((at_ s.Points (s.Points.length - 1)).X), I ((at_ s.Points (s.Points.length - 1)).Y), I ((at_ s.Points (s.Points.length - 1)).T)]), some (.box [I ((boxS s.Points s.Points.length).X1), I ((boxS s.Points s.Points.length).Y1), I ((boxS s.Points s.Points.length).X2), I ((boxS s.Points s.Points.length).Y2)])] [Con Tryd.prog 66 [I (bendT s)] true (I ((bendT s).natAbs : Int)) ∧ ((I (bendT s) : AV) = I (bendT s)) ∧ True, 6 ≤ ((bendT s).natAbs : Int), Con Tryd.prog 67 [.agg [I ((at_ s.Points 0).X), I ((at_ s.Points 0).Y), I ((at_ s.Points 0).T)], .agg [I ((at_ s.Points (s.Points.length - 1)).X), I ((at_ s.Points (s.Points.length - 1)).Y), I ((at_ s.Points (s.Points.length - 1)).T)]] true (I (segI (at_ s.Points 0) (at_ s.Points (s.Points.length - 1)))) ∧ ((.agg [I ((at_ s.Points 0).X), I ((at_ s.Points 0).Y), I ((at_ s.Points 0).T)] : AV) = .agg [I ((at_ s.Points 0).X), I ((at_ s.Points 0).Y), I ((at_ s.Points 0).T)]) ∧ ((.agg [I ((at_ s.Points (s.Points.length - 1)).X), I ((at_ s.Points (s.Points.length - 1)).Y), I ((at_ s.Points (s.Points.length - 1)).T)] : AV) = .agg [I ((at_ s.Points (s.Points.length - 1)).X), I ((at_ s.Points (s.Points.length - 1)).Y), I ((at_ s.Points (s.Points.length - 1)).T)]) ∧ True, inR .i64 (4 * (segI (at_ s.Points 0) (at_ s.Points (s.Points.length - 1)))), (4 * (segI (at_ s.Points 0) (at_ s.Points (s.Points.length - 1)))) ≤ (sumS s.Points s.Points.length)] (by kernel_rfl) hB ⟨⟨(abs_ok (bendT s) (by omega)), rfl, trivial⟩, h3, ⟨(lengthOf_ok (at_ s.Points 0) (at_ s.Points (s.Points.length - 1)) (by assumption) (by assumption)), rfl, rfl, trivial⟩, (inR_i64 (by omega) (by omega)), h4, trivial⟩ ?_
          refine ae_then ?_
          refine aw_true rfl ?_
          refine aw_seq ?_
          refine aw_reg [] [2] [] [I 3] [] [] (by kernel_rfl) hB trivial ?_
          refine ae_then ?_
          refine aw_ret ?_
          refine ae_ret_block (ae_ret_then ?_)
          refine ae_ret hB (I 3) (by kernel_rfl) (.inl (by refine congrArg I ?_; unfold gestI endsI caretB; simp_all [hle]; try omega)) rfl (fun _ => trivial)
        · refine aw_reg [(1, .call [(true, I (bendT s))] true (I ((bendT s).natAbs : Int))), (2, .dec true), (6, .call [(true, .agg [I ((at_ s.Points 0).X), I ((at_ s.Points 0).Y), I ((at_ s.Points 0).T)]), (true, .agg [I ((at_ s.Points (s.Points.length - 1)).X), I ((at_ s.Points (s.Points.length - 1)).Y), I ((at_ s.Points (s.Points.length - 1)).T)])] true (I (segI (at_ s.Points 0) (at_ s.Points (s.Points.length - 1))))), (9, .dec false)] [4, 7, 9, 10, 11, 12, 44] [9, 10, 11] [I ((revS s.Points s.Points.length).1), I (strI s), .ref 9 0, .ref 10 0, .ref 11 0, I (((boxS s.Points s.Points.length).Y2) - ((boxS s.Points s.Points.length).Y1)), Bv false] [some (.box [I ((at_ s.Points 0).X), I ((at_ s.Points 0).Y), I ((at_ s.Points 0).T)]), some (.box [I ((at_ s.Points (s.Points.length - 1)).X), I ((at_ s.Points (s.Points.length - 1)).Y), I ((at_ s.Points (s.Points.length - 1)).T)]), some (.box [I ((boxS s.Points s.Points.length).X1), I ((boxS s.Points s.Points.length).Y1), I ((boxS s.Points s.Points.length).X2), I ((boxS s.Points s.Points.length).Y2)])] [Con Tryd.prog 66 [I (bendT s)] true (I ((bendT s).natAbs : Int)) ∧ ((I (bendT s) : AV) = I (bendT s)) ∧ True, 6 ≤ ((bendT s).natAbs : Int), Con Tryd.prog 67 [.agg [I ((at_ s.Points 0).X), I ((at_ s.Points 0).Y), I ((at_ s.Points 0).T)], .agg [I ((at_ s.Points (s.Points.length - 1)).X), I ((at_ s.Points (s.Points.length - 1)).Y), I ((at_ s.Points (s.Points.length - 1)).T)]] true (I (segI (at_ s.Points 0) (at_ s.Points (s.Points.length - 1)))) ∧ ((.agg [I ((at_ s.Points 0).X), I ((at_ s.Points 0).Y), I ((at_ s.Points 0).T)] : AV) = .agg [I ((at_ s.Points 0).X), I ((at_ s.Points 0).Y), I ((at_ s.Points 0).T)]) ∧ ((.agg [I ((at_ s.Points (s.Points.length - 1)).X), I ((at_ s.Points (s.Points.length - 1)).Y), I ((at_ s.Points (s.Points.length - 1)).T)] : AV) = .agg [I ((at_ s.Points (s.Points.length - 1)).X), I ((at_ s.Points (s.Points.length - 1)).Y), I ((at_ s.Points (s.Points.length - 1)).T)]) ∧ True, inR .i64 (4 * (segI (at_ s.Points 0) (at_ s.Points (s.Points.length - 1)))), ¬ ((4 * (segI (at_ s.Points 0) (at_ s.Points (s.Points.length - 1)))) ≤ (sumS s.Points s.Points.length))] (by kernel_rfl) hB ⟨⟨(abs_ok (bendT s) (by omega)), rfl, trivial⟩, h3, ⟨(lengthOf_ok (at_ s.Points 0) (at_ s.Points (s.Points.length - 1)) (by assumption) (by assumption)), rfl, rfl, trivial⟩, (inR_i64 (by omega) (by omega)), h4, trivial⟩ ?_
          refine ae_then ?_
          refine aw_false rfl ?_
          refine aw_seq ?_
          by_cases h5 : ((revS s.Points s.Points.length).1) = 0
          · by_cases h6 : 0 < (((boxS s.Points s.Points.length).Y2) - ((boxS s.Points s.Points.length).Y1))
            · by_cases h7 : (((boxS s.Points s.Points.length).Y2) - ((boxS s.Points s.Points.length).Y1)) ≤ (2 * (((at_ s.Points 0).Y) - ((boxS s.Points s.Points.length).Y1)))
              · by_cases h8 : (((boxS s.Points s.Points.length).Y2) - ((boxS s.Points s.Points.length).Y1)) ≤ (2 * (((at_ s.Points (s.Points.length - 1)).Y) - ((boxS s.Points s.Points.length).Y1)))
                · refine aw_reg [(1, .dec true), (4, .dec true), (14, .dec true), (24, .dec true)] [7, 56] [] [I (strI s), Bv true] [] [((revS s.Points s.Points.length).1) = 0, 0 < (((boxS s.Points s.Points.length).Y2) - ((boxS s.Points s.Points.length).Y1)), inR .i64 (((at_ s.Points 0).Y) - ((boxS s.Points s.Points.length).Y1)), inR .i64 (2 * (((at_ s.Points 0).Y) - ((boxS s.Points s.Points.length).Y1))), (((boxS s.Points s.Points.length).Y2) - ((boxS s.Points s.Points.length).Y1)) ≤ (2 * (((at_ s.Points 0).Y) - ((boxS s.Points s.Points.length).Y1))), inR .i64 (((at_ s.Points (s.Points.length - 1)).Y) - ((boxS s.Points s.Points.length).Y1)), inR .i64 (2 * (((at_ s.Points (s.Points.length - 1)).Y) - ((boxS s.Points s.Points.length).Y1))), (((boxS s.Points s.Points.length).Y2) - ((boxS s.Points s.Points.length).Y1)) ≤ (2 * (((at_ s.Points (s.Points.length - 1)).Y) - ((boxS s.Points s.Points.length).Y1)))] (by kernel_rfl) hB ⟨h5, h6, (inR_i64 (by omega) (by omega)), (inR_i64 (by omega) (by omega)), h7, (inR_i64 (by omega) (by omega)), (inR_i64 (by omega) (by omega)), h8, trivial⟩ ?_
                  refine ae_then ?_
                  refine aw_true rfl ?_
                  refine aw_seq ?_
                  refine aw_reg [] [2] [] [I 4] [] [] (by kernel_rfl) hB trivial ?_
                  refine ae_then ?_
                  refine aw_ret ?_
                  refine ae_ret_block (ae_ret_then ?_)
                  refine ae_ret hB (I 4) (by kernel_rfl) (.inl (by refine congrArg I ?_; unfold gestI endsI caretB; simp_all [hle]; try omega)) rfl (fun _ => trivial)
                · refine aw_reg [(1, .dec true), (4, .dec true), (14, .dec true), (24, .dec false)] [7, 56] [] [I (strI s), Bv false] [] [((revS s.Points s.Points.length).1) = 0, 0 < (((boxS s.Points s.Points.length).Y2) - ((boxS s.Points s.Points.length).Y1)), inR .i64 (((at_ s.Points 0).Y) - ((boxS s.Points s.Points.length).Y1)), inR .i64 (2 * (((at_ s.Points 0).Y) - ((boxS s.Points s.Points.length).Y1))), (((boxS s.Points s.Points.length).Y2) - ((boxS s.Points s.Points.length).Y1)) ≤ (2 * (((at_ s.Points 0).Y) - ((boxS s.Points s.Points.length).Y1))), inR .i64 (((at_ s.Points (s.Points.length - 1)).Y) - ((boxS s.Points s.Points.length).Y1)), inR .i64 (2 * (((at_ s.Points (s.Points.length - 1)).Y) - ((boxS s.Points s.Points.length).Y1))), ¬ ((((boxS s.Points s.Points.length).Y2) - ((boxS s.Points s.Points.length).Y1)) ≤ (2 * (((at_ s.Points (s.Points.length - 1)).Y) - ((boxS s.Points s.Points.length).Y1))))] (by kernel_rfl) hB ⟨h5, h6, (inR_i64 (by omega) (by omega)), (inR_i64 (by omega) (by omega)), h7, (inR_i64 (by omega) (by omega)), (inR_i64 (by omega) (by omega)), h8, trivial⟩ ?_
                  refine ae_then ?_
                  refine aw_false rfl ?_
                  refine aw_seq ?_
                  by_cases h9 : 900 ≤ (strI s)
                  · refine aw_reg [(1, .dec true)] [83] [] [Bv true] [] [900 ≤ (strI s)] (by kernel_rfl) hB ⟨h9, trivial⟩ ?_
                    refine ae_then ?_
                    refine aw_true rfl ?_
                    refine aw_seq ?_
                    refine aw_reg [] [2] [] [I 5] [] [] (by kernel_rfl) hB trivial ?_
                    refine ae_then ?_
                    refine aw_ret ?_
                    refine ae_ret_block (ae_ret_then ?_)
                    refine ae_ret hB (I 5) (by kernel_rfl) (.inl (by refine congrArg I ?_; unfold gestI endsI caretB; simp_all [hle]; try omega)) rfl (fun _ => trivial)
                  · refine aw_reg [(1, .dec false)] [83] [] [Bv false] [] [¬ (900 ≤ (strI s))] (by kernel_rfl) hB ⟨h9, trivial⟩ ?_
                    refine ae_then ?_
                    refine aw_false rfl ?_
                    refine aw_skip ?_
                    refine ae_block 0 ?_
                    refine ae_then ?_
                    refine aw_seq ?_
                    refine aw_reg [] [2] [] [I 0] [] [] (by kernel_rfl) hB trivial ?_
                    refine ae_then ?_
                    refine aw_ret ?_
                    refine ae_ret hB (I 0) (by kernel_rfl) (.inl (by refine congrArg I ?_; unfold gestI endsI caretB; simp_all [hle]; try omega)) rfl (fun _ => trivial)
              · refine aw_reg [(1, .dec true), (4, .dec true), (14, .dec false)] [7, 56] [] [I (strI s), Bv false] [] [((revS s.Points s.Points.length).1) = 0, 0 < (((boxS s.Points s.Points.length).Y2) - ((boxS s.Points s.Points.length).Y1)), inR .i64 (((at_ s.Points 0).Y) - ((boxS s.Points s.Points.length).Y1)), inR .i64 (2 * (((at_ s.Points 0).Y) - ((boxS s.Points s.Points.length).Y1))), ¬ ((((boxS s.Points s.Points.length).Y2) - ((boxS s.Points s.Points.length).Y1)) ≤ (2 * (((at_ s.Points 0).Y) - ((boxS s.Points s.Points.length).Y1))))] (by kernel_rfl) hB ⟨h5, h6, (inR_i64 (by omega) (by omega)), (inR_i64 (by omega) (by omega)), h7, trivial⟩ ?_
                refine ae_then ?_
                refine aw_false rfl ?_
                refine aw_seq ?_
                by_cases h10 : 900 ≤ (strI s)
                · refine aw_reg [(1, .dec true)] [83] [] [Bv true] [] [900 ≤ (strI s)] (by kernel_rfl) hB ⟨h10, trivial⟩ ?_
                  refine ae_then ?_
                  refine aw_true rfl ?_
                  refine aw_seq ?_
                  refine aw_reg [] [2] [] [I 5] [] [] (by kernel_rfl) hB trivial ?_
                  refine ae_then ?_
                  refine aw_ret ?_
                  refine ae_ret_block (ae_ret_then ?_)
                  refine ae_ret hB (I 5) (by kernel_rfl) (.inl (by refine congrArg I ?_; unfold gestI endsI caretB; simp_all [hle]; try omega)) rfl (fun _ => trivial)
                · refine aw_reg [(1, .dec false)] [83] [] [Bv false] [] [¬ (900 ≤ (strI s))] (by kernel_rfl) hB ⟨h10, trivial⟩ ?_
                  refine ae_then ?_
                  refine aw_false rfl ?_
                  refine aw_skip ?_
                  refine ae_block 0 ?_
                  refine ae_then ?_
                  refine aw_seq ?_
                  refine aw_reg [] [2] [] [I 0] [] [] (by kernel_rfl) hB trivial ?_
                  refine ae_then ?_
                  refine aw_ret ?_
                  refine ae_ret hB (I 0) (by kernel_rfl) (.inl (by refine congrArg I ?_; unfold gestI endsI caretB; simp_all [hle]; try omega)) rfl (fun _ => trivial)
            · refine aw_reg [(1, .dec true), (4, .dec false)] [7, 56] [] [I (strI s), Bv false] [] [((revS s.Points s.Points.length).1) = 0, ¬ (0 < (((boxS s.Points s.Points.length).Y2) - ((boxS s.Points s.Points.length).Y1)))] (by kernel_rfl) hB ⟨h5, h6, trivial⟩ ?_
              refine ae_then ?_
              refine aw_false rfl ?_
              refine aw_seq ?_
              by_cases h11 : 900 ≤ (strI s)
              · refine aw_reg [(1, .dec true)] [83] [] [Bv true] [] [900 ≤ (strI s)] (by kernel_rfl) hB ⟨h11, trivial⟩ ?_
                refine ae_then ?_
                refine aw_true rfl ?_
                refine aw_seq ?_
                refine aw_reg [] [2] [] [I 5] [] [] (by kernel_rfl) hB trivial ?_
                refine ae_then ?_
                refine aw_ret ?_
                refine ae_ret_block (ae_ret_then ?_)
                refine ae_ret hB (I 5) (by kernel_rfl) (.inl (by refine congrArg I ?_; unfold gestI endsI caretB; simp_all [hle]; try omega)) rfl (fun _ => trivial)
              · refine aw_reg [(1, .dec false)] [83] [] [Bv false] [] [¬ (900 ≤ (strI s))] (by kernel_rfl) hB ⟨h11, trivial⟩ ?_
                refine ae_then ?_
                refine aw_false rfl ?_
                refine aw_skip ?_
                refine ae_block 0 ?_
                refine ae_then ?_
                refine aw_seq ?_
                refine aw_reg [] [2] [] [I 0] [] [] (by kernel_rfl) hB trivial ?_
                refine ae_then ?_
                refine aw_ret ?_
                refine ae_ret hB (I 0) (by kernel_rfl) (.inl (by refine congrArg I ?_; unfold gestI endsI caretB; simp_all [hle]; try omega)) rfl (fun _ => trivial)
          · refine aw_reg [(1, .dec false)] [7, 56] [] [I (strI s), Bv false] [] [¬ (((revS s.Points s.Points.length).1) = 0)] (by kernel_rfl) hB ⟨h5, trivial⟩ ?_
            refine ae_then ?_
            refine aw_false rfl ?_
            refine aw_seq ?_
            by_cases h12 : 900 ≤ (strI s)
            · refine aw_reg [(1, .dec true)] [83] [] [Bv true] [] [900 ≤ (strI s)] (by kernel_rfl) hB ⟨h12, trivial⟩ ?_
              refine ae_then ?_
              refine aw_true rfl ?_
              refine aw_seq ?_
              refine aw_reg [] [2] [] [I 5] [] [] (by kernel_rfl) hB trivial ?_
              refine ae_then ?_
              refine aw_ret ?_
              refine ae_ret_block (ae_ret_then ?_)
              refine ae_ret hB (I 5) (by kernel_rfl) (.inl (by refine congrArg I ?_; unfold gestI endsI caretB; simp_all [hle]; try omega)) rfl (fun _ => trivial)
            · refine aw_reg [(1, .dec false)] [83] [] [Bv false] [] [¬ (900 ≤ (strI s))] (by kernel_rfl) hB ⟨h12, trivial⟩ ?_
              refine ae_then ?_
              refine aw_false rfl ?_
              refine aw_skip ?_
              refine ae_block 0 ?_
              refine ae_then ?_
              refine aw_seq ?_
              refine aw_reg [] [2] [] [I 0] [] [] (by kernel_rfl) hB trivial ?_
              refine ae_then ?_
              refine aw_ret ?_
              refine ae_ret hB (I 0) (by kernel_rfl) (.inl (by refine congrArg I ?_; unfold gestI endsI caretB; simp_all [hle]; try omega)) rfl (fun _ => trivial)
      · refine aw_reg [(1, .call [(true, I (bendT s))] true (I ((bendT s).natAbs : Int))), (2, .dec false)] [4, 7, 9, 10, 11, 12, 44] [9, 10, 11] [I ((revS s.Points s.Points.length).1), I (strI s), .ref 9 0, .ref 10 0, .ref 11 0, I (((boxS s.Points s.Points.length).Y2) - ((boxS s.Points s.Points.length).Y1)), Bv false] [some (.box [I ((at_ s.Points 0).X), I ((at_ s.Points 0).Y), I ((at_ s.Points 0).T)]), some (.box [I ((at_ s.Points (s.Points.length - 1)).X), I ((at_ s.Points (s.Points.length - 1)).Y), I ((at_ s.Points (s.Points.length - 1)).T)]), some (.box [I ((boxS s.Points s.Points.length).X1), I ((boxS s.Points s.Points.length).Y1), I ((boxS s.Points s.Points.length).X2), I ((boxS s.Points s.Points.length).Y2)])] [Con Tryd.prog 66 [I (bendT s)] true (I ((bendT s).natAbs : Int)) ∧ ((I (bendT s) : AV) = I (bendT s)) ∧ True, ¬ (6 ≤ ((bendT s).natAbs : Int))] (by kernel_rfl) hB ⟨⟨(abs_ok (bendT s) (by omega)), rfl, trivial⟩, h3, trivial⟩ ?_
        refine ae_then ?_
        refine aw_false rfl ?_
        refine aw_seq ?_
        by_cases h13 : ((revS s.Points s.Points.length).1) = 0
        · by_cases h14 : 0 < (((boxS s.Points s.Points.length).Y2) - ((boxS s.Points s.Points.length).Y1))
          · by_cases h15 : (((boxS s.Points s.Points.length).Y2) - ((boxS s.Points s.Points.length).Y1)) ≤ (2 * (((at_ s.Points 0).Y) - ((boxS s.Points s.Points.length).Y1)))
            · by_cases h16 : (((boxS s.Points s.Points.length).Y2) - ((boxS s.Points s.Points.length).Y1)) ≤ (2 * (((at_ s.Points (s.Points.length - 1)).Y) - ((boxS s.Points s.Points.length).Y1)))
              · refine aw_reg [(1, .dec true), (4, .dec true), (14, .dec true), (24, .dec true)] [7, 56] [] [I (strI s), Bv true] [] [((revS s.Points s.Points.length).1) = 0, 0 < (((boxS s.Points s.Points.length).Y2) - ((boxS s.Points s.Points.length).Y1)), inR .i64 (((at_ s.Points 0).Y) - ((boxS s.Points s.Points.length).Y1)), inR .i64 (2 * (((at_ s.Points 0).Y) - ((boxS s.Points s.Points.length).Y1))), (((boxS s.Points s.Points.length).Y2) - ((boxS s.Points s.Points.length).Y1)) ≤ (2 * (((at_ s.Points 0).Y) - ((boxS s.Points s.Points.length).Y1))), inR .i64 (((at_ s.Points (s.Points.length - 1)).Y) - ((boxS s.Points s.Points.length).Y1)), inR .i64 (2 * (((at_ s.Points (s.Points.length - 1)).Y) - ((boxS s.Points s.Points.length).Y1))), (((boxS s.Points s.Points.length).Y2) - ((boxS s.Points s.Points.length).Y1)) ≤ (2 * (((at_ s.Points (s.Points.length - 1)).Y) - ((boxS s.Points s.Points.length).Y1)))] (by kernel_rfl) hB ⟨h13, h14, (inR_i64 (by omega) (by omega)), (inR_i64 (by omega) (by omega)), h15, (inR_i64 (by omega) (by omega)), (inR_i64 (by omega) (by omega)), h16, trivial⟩ ?_
                refine ae_then ?_
                refine aw_true rfl ?_
                refine aw_seq ?_
                refine aw_reg [] [2] [] [I 4] [] [] (by kernel_rfl) hB trivial ?_
                refine ae_then ?_
                refine aw_ret ?_
                refine ae_ret_block (ae_ret_then ?_)
                refine ae_ret hB (I 4) (by kernel_rfl) (.inl (by refine congrArg I ?_; unfold gestI endsI caretB; simp_all [hle]; try omega)) rfl (fun _ => trivial)
              · refine aw_reg [(1, .dec true), (4, .dec true), (14, .dec true), (24, .dec false)] [7, 56] [] [I (strI s), Bv false] [] [((revS s.Points s.Points.length).1) = 0, 0 < (((boxS s.Points s.Points.length).Y2) - ((boxS s.Points s.Points.length).Y1)), inR .i64 (((at_ s.Points 0).Y) - ((boxS s.Points s.Points.length).Y1)), inR .i64 (2 * (((at_ s.Points 0).Y) - ((boxS s.Points s.Points.length).Y1))), (((boxS s.Points s.Points.length).Y2) - ((boxS s.Points s.Points.length).Y1)) ≤ (2 * (((at_ s.Points 0).Y) - ((boxS s.Points s.Points.length).Y1))), inR .i64 (((at_ s.Points (s.Points.length - 1)).Y) - ((boxS s.Points s.Points.length).Y1)), inR .i64 (2 * (((at_ s.Points (s.Points.length - 1)).Y) - ((boxS s.Points s.Points.length).Y1))), ¬ ((((boxS s.Points s.Points.length).Y2) - ((boxS s.Points s.Points.length).Y1)) ≤ (2 * (((at_ s.Points (s.Points.length - 1)).Y) - ((boxS s.Points s.Points.length).Y1))))] (by kernel_rfl) hB ⟨h13, h14, (inR_i64 (by omega) (by omega)), (inR_i64 (by omega) (by omega)), h15, (inR_i64 (by omega) (by omega)), (inR_i64 (by omega) (by omega)), h16, trivial⟩ ?_
                refine ae_then ?_
                refine aw_false rfl ?_
                refine aw_seq ?_
                by_cases h17 : 900 ≤ (strI s)
                · refine aw_reg [(1, .dec true)] [83] [] [Bv true] [] [900 ≤ (strI s)] (by kernel_rfl) hB ⟨h17, trivial⟩ ?_
                  refine ae_then ?_
                  refine aw_true rfl ?_
                  refine aw_seq ?_
                  refine aw_reg [] [2] [] [I 5] [] [] (by kernel_rfl) hB trivial ?_
                  refine ae_then ?_
                  refine aw_ret ?_
                  refine ae_ret_block (ae_ret_then ?_)
                  refine ae_ret hB (I 5) (by kernel_rfl) (.inl (by refine congrArg I ?_; unfold gestI endsI caretB; simp_all [hle]; try omega)) rfl (fun _ => trivial)
                · refine aw_reg [(1, .dec false)] [83] [] [Bv false] [] [¬ (900 ≤ (strI s))] (by kernel_rfl) hB ⟨h17, trivial⟩ ?_
                  refine ae_then ?_
                  refine aw_false rfl ?_
                  refine aw_skip ?_
                  refine ae_block 0 ?_
                  refine ae_then ?_
                  refine aw_seq ?_
                  refine aw_reg [] [2] [] [I 0] [] [] (by kernel_rfl) hB trivial ?_
                  refine ae_then ?_
                  refine aw_ret ?_
                  refine ae_ret hB (I 0) (by kernel_rfl) (.inl (by refine congrArg I ?_; unfold gestI endsI caretB; simp_all [hle]; try omega)) rfl (fun _ => trivial)
            · refine aw_reg [(1, .dec true), (4, .dec true), (14, .dec false)] [7, 56] [] [I (strI s), Bv false] [] [((revS s.Points s.Points.length).1) = 0, 0 < (((boxS s.Points s.Points.length).Y2) - ((boxS s.Points s.Points.length).Y1)), inR .i64 (((at_ s.Points 0).Y) - ((boxS s.Points s.Points.length).Y1)), inR .i64 (2 * (((at_ s.Points 0).Y) - ((boxS s.Points s.Points.length).Y1))), ¬ ((((boxS s.Points s.Points.length).Y2) - ((boxS s.Points s.Points.length).Y1)) ≤ (2 * (((at_ s.Points 0).Y) - ((boxS s.Points s.Points.length).Y1))))] (by kernel_rfl) hB ⟨h13, h14, (inR_i64 (by omega) (by omega)), (inR_i64 (by omega) (by omega)), h15, trivial⟩ ?_
              refine ae_then ?_
              refine aw_false rfl ?_
              refine aw_seq ?_
              by_cases h18 : 900 ≤ (strI s)
              · refine aw_reg [(1, .dec true)] [83] [] [Bv true] [] [900 ≤ (strI s)] (by kernel_rfl) hB ⟨h18, trivial⟩ ?_
                refine ae_then ?_
                refine aw_true rfl ?_
                refine aw_seq ?_
                refine aw_reg [] [2] [] [I 5] [] [] (by kernel_rfl) hB trivial ?_
                refine ae_then ?_
                refine aw_ret ?_
                refine ae_ret_block (ae_ret_then ?_)
                refine ae_ret hB (I 5) (by kernel_rfl) (.inl (by refine congrArg I ?_; unfold gestI endsI caretB; simp_all [hle]; try omega)) rfl (fun _ => trivial)
              · refine aw_reg [(1, .dec false)] [83] [] [Bv false] [] [¬ (900 ≤ (strI s))] (by kernel_rfl) hB ⟨h18, trivial⟩ ?_
                refine ae_then ?_
                refine aw_false rfl ?_
                refine aw_skip ?_
                refine ae_block 0 ?_
                refine ae_then ?_
                refine aw_seq ?_
                refine aw_reg [] [2] [] [I 0] [] [] (by kernel_rfl) hB trivial ?_
                refine ae_then ?_
                refine aw_ret ?_
                refine ae_ret hB (I 0) (by kernel_rfl) (.inl (by refine congrArg I ?_; unfold gestI endsI caretB; simp_all [hle]; try omega)) rfl (fun _ => trivial)
          · refine aw_reg [(1, .dec true), (4, .dec false)] [7, 56] [] [I (strI s), Bv false] [] [((revS s.Points s.Points.length).1) = 0, ¬ (0 < (((boxS s.Points s.Points.length).Y2) - ((boxS s.Points s.Points.length).Y1)))] (by kernel_rfl) hB ⟨h13, h14, trivial⟩ ?_
            refine ae_then ?_
            refine aw_false rfl ?_
            refine aw_seq ?_
            by_cases h19 : 900 ≤ (strI s)
            · refine aw_reg [(1, .dec true)] [83] [] [Bv true] [] [900 ≤ (strI s)] (by kernel_rfl) hB ⟨h19, trivial⟩ ?_
              refine ae_then ?_
              refine aw_true rfl ?_
              refine aw_seq ?_
              refine aw_reg [] [2] [] [I 5] [] [] (by kernel_rfl) hB trivial ?_
              refine ae_then ?_
              refine aw_ret ?_
              refine ae_ret_block (ae_ret_then ?_)
              refine ae_ret hB (I 5) (by kernel_rfl) (.inl (by refine congrArg I ?_; unfold gestI endsI caretB; simp_all [hle]; try omega)) rfl (fun _ => trivial)
            · refine aw_reg [(1, .dec false)] [83] [] [Bv false] [] [¬ (900 ≤ (strI s))] (by kernel_rfl) hB ⟨h19, trivial⟩ ?_
              refine ae_then ?_
              refine aw_false rfl ?_
              refine aw_skip ?_
              refine ae_block 0 ?_
              refine ae_then ?_
              refine aw_seq ?_
              refine aw_reg [] [2] [] [I 0] [] [] (by kernel_rfl) hB trivial ?_
              refine ae_then ?_
              refine aw_ret ?_
              refine ae_ret hB (I 0) (by kernel_rfl) (.inl (by refine congrArg I ?_; unfold gestI endsI caretB; simp_all [hle]; try omega)) rfl (fun _ => trivial)
        · refine aw_reg [(1, .dec false)] [7, 56] [] [I (strI s), Bv false] [] [¬ (((revS s.Points s.Points.length).1) = 0)] (by kernel_rfl) hB ⟨h13, trivial⟩ ?_
          refine ae_then ?_
          refine aw_false rfl ?_
          refine aw_seq ?_
          by_cases h20 : 900 ≤ (strI s)
          · refine aw_reg [(1, .dec true)] [83] [] [Bv true] [] [900 ≤ (strI s)] (by kernel_rfl) hB ⟨h20, trivial⟩ ?_
            refine ae_then ?_
            refine aw_true rfl ?_
            refine aw_seq ?_
            refine aw_reg [] [2] [] [I 5] [] [] (by kernel_rfl) hB trivial ?_
            refine ae_then ?_
            refine aw_ret ?_
            refine ae_ret_block (ae_ret_then ?_)
            refine ae_ret hB (I 5) (by kernel_rfl) (.inl (by refine congrArg I ?_; unfold gestI endsI caretB; simp_all [hle]; try omega)) rfl (fun _ => trivial)
          · refine aw_reg [(1, .dec false)] [83] [] [Bv false] [] [¬ (900 ≤ (strI s))] (by kernel_rfl) hB ⟨h20, trivial⟩ ?_
            refine ae_then ?_
            refine aw_false rfl ?_
            refine aw_skip ?_
            refine ae_block 0 ?_
            refine ae_then ?_
            refine aw_seq ?_
            refine aw_reg [] [2] [] [I 0] [] [] (by kernel_rfl) hB trivial ?_
            refine ae_then ?_
            refine aw_ret ?_
            refine ae_ret hB (I 0) (by kernel_rfl) (.inl (by refine congrArg I ?_; unfold gestI endsI caretB; simp_all [hle]; try omega)) rfl (fun _ => trivial)


-- impl.insertPlace
theorem insertPlace_ok (l : CellRow) (s : Stroke) (hr0 : okRow l = true) (ok : okStroke' s = true) : Con Tryd.prog 47 [.agg [Sv l.Text, I l.X, I l.Y, I l.Cell], .agg [slPoint false s.Points]] true (I (placeS l (at_ s.Points (tipS s.Points s.Points.length)).X l.Text.size)) := by
  have hr := okRow_iff.1 hr0
  have hln := okS_len ok
  refine fn_ok (fn := Tryd.f47) (nt := 58) Tryd.func47 rfl rfl rfl rfl (by simp [taggedL, tagged, tagPoint]) fun B hB => ?_
  refine aw_lens (x := .agg [slPoint false s.Points]) 1 rfl (fun len_s => ?_)
  simp [LenOK, LenL, cPoint, fPoint, slPoint] at len_s
  refine aw_seq ?_
  refine aw_reg [(0, .new 2), (1, .new 3)] [2, 3] [2, 3] [.ref 2 0, .ref 3 0] [some (.box [Sv l.Text, I l.X, I l.Y, I l.Cell]), some (.box [slPoint false s.Points])] [] (by kernel_rfl) hB trivial ?_
  refine ae_then ?_
  refine aw_seq ?_
  refine aw_reg [(1, .call [(true, .agg [slPoint false s.Points])] true (.agg [I ((at_ s.Points 0).X), I ((at_ s.Points 0).Y), I ((at_ s.Points 0).T)])), (2, .new 5)] [2, 3, 5] [2, 3, 5] [.ref 2 0, .ref 3 0, .ref 5 0] [some (.box [Sv l.Text, I l.X, I l.Y, I l.Cell]), some (.box [slPoint false s.Points]), some (.box [I ((at_ s.Points 0).X), I ((at_ s.Points 0).Y), I ((at_ s.Points 0).T)])] [Con Tryd.prog 64 [.agg [slPoint false s.Points]] true (.agg [I ((at_ s.Points 0).X), I ((at_ s.Points 0).Y), I ((at_ s.Points 0).T)]) ∧ ((.agg [slPoint false s.Points] : AV) = .agg [slPoint false s.Points]) ∧ True] (by kernel_rfl) hB ⟨⟨(firstOf_ok s ok), rfl, trivial⟩, trivial⟩ ?_
  refine ae_then ?_
  refine aw_seq ?_
  refine aw_seq ?_
  refine aw_reg [] [2, 5, 13, 14, 15] [2, 5] [.ref 2 0, .ref 5 0, slPoint false s.Points, I (s.Points.length : Int), I 0] [some (.box [Sv l.Text, I l.X, I l.Y, I l.Cell]), some (.box [I ((at_ s.Points 0).X), I ((at_ s.Points 0).Y), I ((at_ s.Points 0).T)])] [] (by kernel_rfl) hB trivial ?_
  refine ae_then ?_
  refine aw_block ?_
  refine aw_loop (fun gn gσ => ∃ (t15 : Int) (px : Int) (py : Int) (pt : Int), gn = ((s.Points.length : Int) - t15).toNat ∧ (0 ≤ t15 ∧ t15 ≤ (s.Points.length : Int)) ∧ (Point.mk px py pt = at_ s.Points (tipS s.Points t15.toNat)) ∧ gσ = mkS [(2, .ref 2 0), (5, .ref 5 0), (13, slPoint false s.Points), (14, I (s.Points.length : Int)), (15, I t15)] [(2, .box [Sv l.Text, I l.X, I l.Y, I l.Cell]), (5, .box [I px, I py, I pt])]) (((s.Points.length : Int) - 0).toNat) ⟨0, (at_ s.Points 0).X, (at_ s.Points 0).Y, (at_ s.Points 0).T, rfl, (by omega), (by rfl), rfl⟩ (fun gn gσ hI => ?_)
  obtain ⟨t15, px, py, pt, rfl, hi0, hb1, rfl⟩ := hI
  refine aw_seq ?_
  by_cases h1 : t15 < (s.Points.length : Int)
  · have hi : t15.toNat < s.Points.length := by omega
    refine aw_reg [(0, .dec true)] [2, 5, 13, 14, 15, 16] [2, 5] [.ref 2 0, .ref 5 0, slPoint false s.Points, I (s.Points.length : Int), I t15, Bv true] [some (.box [Sv l.Text, I l.X, I l.Y, I l.Cell]), some (.box [I px, I py, I pt])] [t15 < (s.Points.length : Int)] (by kernel_rfl) hB ⟨h1, trivial⟩ ?_
    refine ae_then ?_
    refine aw_seq ?_
    refine aw_true rfl ?_
    refine aw_skip ?_
    refine ae_then ?_
    refine aw_seq ?_
    refine aw_block ?_
    refine aw_seq ?_
    refine aw_reg [(2, .new 7)] [2, 5, 7, 13, 14, 15] [2, 5, 7] [.ref 2 0, .ref 5 0, .ref 7 0, slPoint false s.Points, I (s.Points.length : Int), I t15] [some (.box [Sv l.Text, I l.X, I l.Y, I l.Cell]), some (.box [I px, I py, I pt]), some (.box [I ((at_ s.Points t15.toNat).X), I ((at_ s.Points t15.toNat).Y), I ((at_ s.Points t15.toNat).T)])] [(0 : Int) ≤ t15 ∧ t15 < (s.Points.length : Int)] (by kernel_rfl) hB ⟨⟨(by omega), (by omega)⟩, trivial⟩ ?_
    refine ae_then ?_
    refine aw_seq ?_
    by_cases h2 : ((at_ s.Points t15.toNat).Y) < py
    · refine aw_reg [(4, .dec true)] [2, 5, 7, 13, 14, 15, 23] [2, 5, 7] [.ref 2 0, .ref 5 0, .ref 7 0, slPoint false s.Points, I (s.Points.length : Int), I t15, Bv true] [some (.box [Sv l.Text, I l.X, I l.Y, I l.Cell]), some (.box [I px, I py, I pt]), some (.box [I ((at_ s.Points t15.toNat).X), I ((at_ s.Points t15.toNat).Y), I ((at_ s.Points t15.toNat).T)])] [((at_ s.Points t15.toNat).Y) < py] (by kernel_rfl) hB ⟨h2, trivial⟩ ?_
      refine ae_then ?_
      refine aw_true rfl ?_
      refine aw_reg [] [2, 5, 13, 14, 15] [2, 5] [.ref 2 0, .ref 5 0, slPoint false s.Points, I (s.Points.length : Int), I t15] [some (.box [Sv l.Text, I l.X, I l.Y, I l.Cell]), some (.box [I ((at_ s.Points t15.toNat).X), I ((at_ s.Points t15.toNat).Y), I ((at_ s.Points t15.toNat).T)])] [] (by kernel_rfl) hB trivial ?_
      refine ae_block 1 ?_
      refine ae_then ?_
      refine aw_reg [] [2, 5, 13, 14, 15] [2, 5] [.ref 2 0, .ref 5 0, slPoint false s.Points, I (s.Points.length : Int), I (t15 + 1)] [some (.box [Sv l.Text, I l.X, I l.Y, I l.Cell]), some (.box [I ((at_ s.Points t15.toNat).X), I ((at_ s.Points t15.toNat).Y), I ((at_ s.Points t15.toNat).T)])] [inR .i64 (t15 + 1)] (by kernel_rfl) hB ⟨(inR_i64 (by omega) (by omega)), trivial⟩ ?_
      exact ae_again _ (by omega) ⟨(t15 + 1), (at_ s.Points t15.toNat).X, (at_ s.Points t15.toNat).Y, (at_ s.Points t15.toNat).T, rfl, (by omega), (by rw [tip_at hi0.1, ← hb1]; show _ = if (at_ s.Points t15.toNat).Y < py then _ else _; first | (rw [if_pos (by assumption)]; done) | (rw [if_neg (by assumption)]; done)), rfl⟩
    · refine aw_reg [(4, .dec false)] [2, 5, 7, 13, 14, 15, 23] [2, 5, 7] [.ref 2 0, .ref 5 0, .ref 7 0, slPoint false s.Points, I (s.Points.length : Int), I t15, Bv false] [some (.box [Sv l.Text, I l.X, I l.Y, I l.Cell]), some (.box [I px, I py, I pt]), some (.box [I ((at_ s.Points t15.toNat).X), I ((at_ s.Points t15.toNat).Y), I ((at_ s.Points t15.toNat).T)])] [¬ (((at_ s.Points t15.toNat).Y) < py)] (by kernel_rfl) hB ⟨h2, trivial⟩ ?_
      refine ae_then ?_
      refine aw_false rfl ?_
      refine aw_skip ?_
      refine ae_block 1 ?_
      refine ae_then ?_
      refine aw_reg [] [2, 5, 13, 14, 15] [2, 5] [.ref 2 0, .ref 5 0, slPoint false s.Points, I (s.Points.length : Int), I (t15 + 1)] [some (.box [Sv l.Text, I l.X, I l.Y, I l.Cell]), some (.box [I px, I py, I pt])] [inR .i64 (t15 + 1)] (by kernel_rfl) hB ⟨(inR_i64 (by omega) (by omega)), trivial⟩ ?_
      exact ae_again _ (by omega) ⟨(t15 + 1), px, py, pt, rfl, (by omega), (by rw [tip_at hi0.1, ← hb1]; show _ = if (at_ s.Points t15.toNat).Y < py then _ else _; first | (rw [if_pos (by assumption)]; done) | (rw [if_neg (by assumption)]; done)), rfl⟩
  · have hie : t15.toNat = s.Points.length := by omega
    rw [hie] at hb1
    have hpx : px = (at_ s.Points (tipS s.Points s.Points.length)).X := congrArg Point.X hb1
    have hpd := okP_iff.1 (okS_at ok (j := tipS s.Points s.Points.length) (tip_lt (by omega)))
    rw [← hpx] at hpd
    refine aw_reg [(0, .dec false)] [2, 5, 13, 14, 15, 16] [2, 5] [.ref 2 0, .ref 5 0, slPoint false s.Points, I (s.Points.length : Int), I t15, Bv false] [some (.box [Sv l.Text, I l.X, I l.Y, I l.Cell]), some (.box [I px, I py, I pt])] [¬ (t15 < (s.Points.length : Int))] (by kernel_rfl) hB ⟨h1, trivial⟩ ?_
    refine ae_then ?_
    refine aw_seq ?_
    refine aw_false rfl ?_
    refine aw_exit ?_
    refine ae_exit_then ?_
    refine ae_exit_then ?_
    refine ae_exit_same ?_
    refine ae_then ?_
    refine aw_seq ?_
    refine aw_reg [] [2, 5, 8] [2, 5] [.ref 2 0, .ref 5 0, I 0] [some (.box [Sv l.Text, I l.X, I l.Y, I l.Cell]), some (.box [I px, I py, I pt])] [] (by kernel_rfl) hB trivial ?_
    refine ae_then ?_
    refine aw_seq ?_
    refine aw_seq ?_
    refine aw_reg [] [2, 5, 8, 9] [2, 5] [.ref 2 0, .ref 5 0, I 0, I 1] [some (.box [Sv l.Text, I l.X, I l.Y, I l.Cell]), some (.box [I px, I py, I pt])] [] (by kernel_rfl) hB trivial ?_
    refine ae_then ?_
    refine aw_block ?_
    refine aw_loop (fun gn gσ => ∃ (best : Int) (k : Int), gn = ((l.Text.size : Int) + 1 - k).toNat ∧ (1 ≤ k ∧ k ≤ (l.Text.size : Int) + 1) ∧ (best = placeS l px (k - 1).toNat) ∧ (0 ≤ best ∧ best ≤ k - 1) ∧ gσ = mkS [(2, .ref 2 0), (5, .ref 5 0), (8, I best), (9, I k)] [(2, .box [Sv l.Text, I l.X, I l.Y, I l.Cell]), (5, .box [I px, I py, I pt])]) (((l.Text.size : Int) + 1 - 1).toNat) ⟨0, 1, rfl, (by omega), (by rfl), (by omega), rfl⟩ (fun gn gσ hI => ?_)
    obtain ⟨best, k, rfl, hq0, hp1, hp2, rfl⟩ := hI
    refine aw_seq ?_
    refine aw_seq ?_
    by_cases h3 : k ≤ (l.Text.size : Int)
    · have hkb := mul60 (a := k) (c := l.Cell) (by omega) (by omega)
      have hbb := mul60 (a := best) (c := l.Cell) (by omega) (by omega)
      refine aw_reg [(4, .dec true)] [2, 5, 8, 9, 30] [2, 5] [.ref 2 0, .ref 5 0, I best, I k, Bv true] [some (.box [Sv l.Text, I l.X, I l.Y, I l.Cell]), some (.box [I px, I py, I pt])] [k ≤ (l.Text.size : Int)] (by kernel_rfl) hB ⟨h3, trivial⟩ ?_
      refine ae_then ?_
      refine aw_true rfl ?_
      refine aw_skip ?_
      refine ae_then ?_
      refine aw_seq ?_
      refine aw_block ?_
      refine aw_seq ?_
      by_cases h4 : (((l.X + (k * l.Cell)) - px).natAbs : Int) < (((l.X + (best * l.Cell)) - px).natAbs : Int)
      · refine aw_reg [(10, .call [(true, I ((l.X + (k * l.Cell)) - px))] true (I (((l.X + (k * l.Cell)) - px).natAbs : Int))), (21, .call [(true, I ((l.X + (best * l.Cell)) - px))] true (I (((l.X + (best * l.Cell)) - px).natAbs : Int))), (22, .dec true)] [2, 5, 8, 9, 55] [2, 5] [.ref 2 0, .ref 5 0, I best, I k, Bv true] [some (.box [Sv l.Text, I l.X, I l.Y, I l.Cell]), some (.box [I px, I py, I pt])] [inR .i64 (k * l.Cell), inR .i64 (l.X + (k * l.Cell)), inR .i64 ((l.X + (k * l.Cell)) - px), Con Tryd.prog 66 [I ((l.X + (k * l.Cell)) - px)] true (I (((l.X + (k * l.Cell)) - px).natAbs : Int)) ∧ ((I ((l.X + (k * l.Cell)) - px) : AV) = I ((l.X + (k * l.Cell)) - px)) ∧ True, inR .i64 (best * l.Cell), inR .i64 (l.X + (best * l.Cell)), inR .i64 ((l.X + (best * l.Cell)) - px), Con Tryd.prog 66 [I ((l.X + (best * l.Cell)) - px)] true (I (((l.X + (best * l.Cell)) - px).natAbs : Int)) ∧ ((I ((l.X + (best * l.Cell)) - px) : AV) = I ((l.X + (best * l.Cell)) - px)) ∧ True, (((l.X + (k * l.Cell)) - px).natAbs : Int) < (((l.X + (best * l.Cell)) - px).natAbs : Int)] (by kernel_rfl) hB ⟨(inR_i64 (by omega) (by omega)), (inR_i64 (by omega) (by omega)), (inR_i64 (by omega) (by omega)), ⟨(abs_ok ((l.X + (k * l.Cell)) - px) (by omega)), rfl, trivial⟩, (inR_i64 (by omega) (by omega)), (inR_i64 (by omega) (by omega)), (inR_i64 (by omega) (by omega)), ⟨(abs_ok ((l.X + (best * l.Cell)) - px) (by omega)), rfl, trivial⟩, h4, trivial⟩ ?_
        refine ae_then ?_
        refine aw_true rfl ?_
        refine aw_reg [] [2, 5, 8, 9] [2, 5] [.ref 2 0, .ref 5 0, I k, I k] [some (.box [Sv l.Text, I l.X, I l.Y, I l.Cell]), some (.box [I px, I py, I pt])] [] (by kernel_rfl) hB trivial ?_
        refine ae_block 3 ?_
        refine ae_then ?_
        refine aw_reg [] [2, 5, 8, 9] [2, 5] [.ref 2 0, .ref 5 0, I k, I (k + 1)] [some (.box [Sv l.Text, I l.X, I l.Y, I l.Cell]), some (.box [I px, I py, I pt])] [inR .i64 (k + 1)] (by kernel_rfl) hB ⟨(inR_i64 (by omega) (by omega)), trivial⟩ ?_
        exact ae_again _ (by omega) ⟨k, (k + 1), rfl, (by omega), (by rw [placeS_succ hq0.1, ← hp1]; first | rfl | (rw [if_pos (by omega)]; done) | (rw [if_neg (by omega)]; done)), (by omega), rfl⟩
      · refine aw_reg [(10, .call [(true, I ((l.X + (k * l.Cell)) - px))] true (I (((l.X + (k * l.Cell)) - px).natAbs : Int))), (21, .call [(true, I ((l.X + (best * l.Cell)) - px))] true (I (((l.X + (best * l.Cell)) - px).natAbs : Int))), (22, .dec false)] [2, 5, 8, 9, 55] [2, 5] [.ref 2 0, .ref 5 0, I best, I k, Bv false] [some (.box [Sv l.Text, I l.X, I l.Y, I l.Cell]), some (.box [I px, I py, I pt])] [inR .i64 (k * l.Cell), inR .i64 (l.X + (k * l.Cell)), inR .i64 ((l.X + (k * l.Cell)) - px), Con Tryd.prog 66 [I ((l.X + (k * l.Cell)) - px)] true (I (((l.X + (k * l.Cell)) - px).natAbs : Int)) ∧ ((I ((l.X + (k * l.Cell)) - px) : AV) = I ((l.X + (k * l.Cell)) - px)) ∧ True, inR .i64 (best * l.Cell), inR .i64 (l.X + (best * l.Cell)), inR .i64 ((l.X + (best * l.Cell)) - px), Con Tryd.prog 66 [I ((l.X + (best * l.Cell)) - px)] true (I (((l.X + (best * l.Cell)) - px).natAbs : Int)) ∧ ((I ((l.X + (best * l.Cell)) - px) : AV) = I ((l.X + (best * l.Cell)) - px)) ∧ True, ¬ ((((l.X + (k * l.Cell)) - px).natAbs : Int) < (((l.X + (best * l.Cell)) - px).natAbs : Int))] (by kernel_rfl) hB ⟨(inR_i64 (by omega) (by omega)), (inR_i64 (by omega) (by omega)), (inR_i64 (by omega) (by omega)), ⟨(abs_ok ((l.X + (k * l.Cell)) - px) (by omega)), rfl, trivial⟩, (inR_i64 (by omega) (by omega)), (inR_i64 (by omega) (by omega)), (inR_i64 (by omega) (by omega)), ⟨(abs_ok ((l.X + (best * l.Cell)) - px) (by omega)), rfl, trivial⟩, h4, trivial⟩ ?_
        refine ae_then ?_
        refine aw_false rfl ?_
        refine aw_skip ?_
        refine ae_block 3 ?_
        refine ae_then ?_
        refine aw_reg [] [2, 5, 8, 9] [2, 5] [.ref 2 0, .ref 5 0, I best, I (k + 1)] [some (.box [Sv l.Text, I l.X, I l.Y, I l.Cell]), some (.box [I px, I py, I pt])] [inR .i64 (k + 1)] (by kernel_rfl) hB ⟨(inR_i64 (by omega) (by omega)), trivial⟩ ?_
        exact ae_again _ (by omega) ⟨best, (k + 1), rfl, (by omega), (by rw [placeS_succ hq0.1, ← hp1]; first | rfl | (rw [if_pos (by omega)]; done) | (rw [if_neg (by omega)]; done)), (by omega), rfl⟩
    · have hie : (k - 1).toNat = l.Text.size := by omega
      rw [hie] at hp1
      refine aw_reg [(4, .dec false)] [2, 5, 8, 9, 30] [2, 5] [.ref 2 0, .ref 5 0, I best, I k, Bv false] [some (.box [Sv l.Text, I l.X, I l.Y, I l.Cell]), some (.box [I px, I py, I pt])] [¬ (k ≤ (l.Text.size : Int))] (by kernel_rfl) hB ⟨h3, trivial⟩ ?_
      refine ae_then ?_
      refine aw_false rfl ?_
      refine aw_exit ?_
      refine ae_exit_then ?_
      refine ae_exit_then ?_
      refine ae_exit_same ?_
      refine ae_then ?_
      refine aw_seq ?_
      refine aw_reg [] [4] [] [I best] [] [] (by kernel_rfl) hB trivial ?_
      refine ae_then ?_
      refine aw_ret ?_
      refine ae_ret hB (I best) (by kernel_rfl) (.inl (by rw [hp1, hpx])) rfl (fun _ => trivial)


-- impl.lettersUnder
theorem lettersUnder_ok (l : CellRow) (b : Box) (hr0 : okRow l = true) (hb : (0 ≤ b.X1 ∧ b.X1 ≤ 4095) ∧ 0 ≤ b.X2 ∧ b.X2 ≤ 4095) : Con Tryd.prog 48 [.agg [Sv l.Text, I l.X, I l.Y, I l.Cell], .agg [I b.X1, I b.Y1, I b.X2, I b.Y2]] true (.tup [I ((spanS l b l.Text.size).1), I ((spanS l b l.Text.size).2)]) := by
  have hr := okRow_iff.1 hr0
  refine fn_ok (fn := Tryd.f48) (nt := 43) Tryd.func48 rfl rfl rfl rfl (by simp [taggedL, tagged]) fun B hB => ?_
  refine aw_seq ?_
  refine aw_reg [(0, .new 2), (1, .new 3)] [2, 3] [2, 3] [.ref 2 0, .ref 3 0] [some (.box [Sv l.Text, I l.X, I l.Y, I l.Cell]), some (.box [I b.X1, I b.Y1, I b.X2, I b.Y2])] [] (by kernel_rfl) hB trivial ?_
  refine ae_then ?_
  refine aw_seq ?_
  refine aw_reg [] [2, 3, 6, 7] [2, 3] [.ref 2 0, .ref 3 0, I 0, I 0] [some (.box [Sv l.Text, I l.X, I l.Y, I l.Cell]), some (.box [I b.X1, I b.Y1, I b.X2, I b.Y2])] [] (by kernel_rfl) hB trivial ?_
  refine ae_then ?_
  refine aw_seq ?_
  refine aw_seq ?_
  refine aw_reg [] [2, 3, 6, 7, 8] [2, 3] [.ref 2 0, .ref 3 0, I 0, I 0, I 0] [some (.box [Sv l.Text, I l.X, I l.Y, I l.Cell]), some (.box [I b.X1, I b.Y1, I b.X2, I b.Y2])] [] (by kernel_rfl) hB trivial ?_
  refine ae_then ?_
  refine aw_block ?_
  refine aw_loop (fun gn gσ => ∃ (fr_ : Int) (to_ : Int) (k : Int), gn = ((l.Text.size : Int) - k).toNat ∧ (0 ≤ k ∧ k ≤ (l.Text.size : Int)) ∧ (fr_ = (spanS l b k.toNat).1) ∧ (to_ = (spanS l b k.toNat).2) ∧ (0 ≤ to_ ∧ to_ ≤ k) ∧ gσ = mkS [(2, .ref 2 0), (3, .ref 3 0), (6, I fr_), (7, I to_), (8, I k)] [(2, .box [Sv l.Text, I l.X, I l.Y, I l.Cell]), (3, .box [I b.X1, I b.Y1, I b.X2, I b.Y2])]) (((l.Text.size : Int) - 0).toNat) ⟨0, 0, 0, rfl, (by omega), (by rfl), (by rfl), (by omega), rfl⟩ (fun gn gσ hI => ?_)
  obtain ⟨fr_, to_, k, rfl, hi0, hs1, hs2, hs3, rfl⟩ := hI
  refine aw_seq ?_
  refine aw_seq ?_
  by_cases h1 : k < (l.Text.size : Int)
  · have hkb := mul60 (a := k) (c := l.Cell) (by omega) (by omega)
    have hme := mid_eq k l.Cell
    have he : (2 * (l.X + k * l.Cell)) + l.Cell = 2 * l.X + (2 * k + 1) * l.Cell := by omega
    refine aw_reg [(4, .dec true)] [2, 3, 6, 7, 8, 14] [2, 3] [.ref 2 0, .ref 3 0, I fr_, I to_, I k, Bv true] [some (.box [Sv l.Text, I l.X, I l.Y, I l.Cell]), some (.box [I b.X1, I b.Y1, I b.X2, I b.Y2])] [k < (l.Text.size : Int)] (by kernel_rfl) hB ⟨h1, trivial⟩ ?_
    refine ae_then ?_
    refine aw_true rfl ?_
    refine aw_skip ?_
    refine ae_then ?_
    refine aw_seq ?_
    refine aw_block ?_
    refine aw_seq ?_
    refine aw_reg [] [2, 3, 6, 7, 8, 9] [2, 3] [.ref 2 0, .ref 3 0, I fr_, I to_, I k, I ((2 * (l.X + (k * l.Cell))) + l.Cell)] [some (.box [Sv l.Text, I l.X, I l.Y, I l.Cell]), some (.box [I b.X1, I b.Y1, I b.X2, I b.Y2])] [inR .i64 (k * l.Cell), inR .i64 (l.X + (k * l.Cell)), inR .i64 (2 * (l.X + (k * l.Cell))), inR .i64 ((2 * (l.X + (k * l.Cell))) + l.Cell)] (by kernel_rfl) hB ⟨(inR_i64 (by omega) (by omega)), (inR_i64 (by omega) (by omega)), (inR_i64 (by omega) (by omega)), (inR_i64 (by omega) (by omega)), trivial⟩ ?_
    refine ae_then ?_
    refine aw_seq ?_
    rcases Bool.eq_false_or_eq_true (inB ((2 * (l.X + (k * l.Cell))) + l.Cell) (2 * b.X1) (2 * b.X2)) with h2 | h2
    · have hqh2 : inB (2 * l.X + (2 * k + 1) * l.Cell) (2 * b.X1) (2 * b.X2) = true := by rw [← he]; exact h2
      refine aw_reg [(7, .call [(true, I ((2 * (l.X + (k * l.Cell))) + l.Cell)), (true, I (2 * b.X1)), (true, I (2 * b.X2))] true (Bv true))] [2, 3, 6, 7, 8, 35] [2, 3] [.ref 2 0, .ref 3 0, I fr_, I to_, I k, Bv true] [some (.box [Sv l.Text, I l.X, I l.Y, I l.Cell]), some (.box [I b.X1, I b.Y1, I b.X2, I b.Y2])] [inR .i64 (2 * b.X1), inR .i64 (2 * b.X2), Con Tryd.prog 35 [I ((2 * (l.X + (k * l.Cell))) + l.Cell), I (2 * b.X1), I (2 * b.X2)] true (Bv true) ∧ ((I ((2 * (l.X + (k * l.Cell))) + l.Cell) : AV) = I ((2 * (l.X + (k * l.Cell))) + l.Cell)) ∧ ((I (2 * b.X1) : AV) = I (2 * b.X1)) ∧ ((I (2 * b.X2) : AV) = I (2 * b.X2)) ∧ True] (by kernel_rfl) hB ⟨(inR_i64 (by omega) (by omega)), (inR_i64 (by omega) (by omega)), ⟨(con_bool h2 (within_ok ((2 * (l.X + (k * l.Cell))) + l.Cell) (2 * b.X1) (2 * b.X2))), rfl, rfl, rfl, trivial⟩, trivial⟩ ?_
      refine ae_then ?_
      refine aw_true rfl ?_
      refine aw_seq ?_
      refine aw_seq ?_
      by_cases h3 : to_ = 0
      · refine aw_reg [(1, .dec true)] [2, 3, 6, 8, 37] [2, 3] [.ref 2 0, .ref 3 0, I fr_, I k, Bv true] [some (.box [Sv l.Text, I l.X, I l.Y, I l.Cell]), some (.box [I b.X1, I b.Y1, I b.X2, I b.Y2])] [to_ = 0] (by kernel_rfl) hB ⟨h3, trivial⟩ ?_
        refine ae_then ?_
        refine aw_true rfl ?_
        refine aw_reg [] [2, 3, 6, 8] [2, 3] [.ref 2 0, .ref 3 0, I k, I k] [some (.box [Sv l.Text, I l.X, I l.Y, I l.Cell]), some (.box [I b.X1, I b.Y1, I b.X2, I b.Y2])] [] (by kernel_rfl) hB trivial ?_
        refine ae_then ?_
        refine aw_reg [] [2, 3, 6, 7, 8] [2, 3] [.ref 2 0, .ref 3 0, I k, I (k + 1), I k] [some (.box [Sv l.Text, I l.X, I l.Y, I l.Cell]), some (.box [I b.X1, I b.Y1, I b.X2, I b.Y2])] [inR .i64 (k + 1)] (by kernel_rfl) hB ⟨(inR_i64 (by omega) (by omega)), trivial⟩ ?_
        refine ae_block 1 ?_
        refine ae_then ?_
        refine aw_reg [] [2, 3, 6, 7, 8] [2, 3] [.ref 2 0, .ref 3 0, I k, I (k + 1), I (k + 1)] [some (.box [Sv l.Text, I l.X, I l.Y, I l.Cell]), some (.box [I b.X1, I b.Y1, I b.X2, I b.Y2])] [inR .i64 (k + 1)] (by kernel_rfl) hB ⟨(inR_i64 (by omega) (by omega)), trivial⟩ ?_
        exact ae_again _ (by omega) ⟨k, (k + 1), (k + 1), rfl, (by omega), (by first | (rw [spanS_yes hi0.1 (by assumption), ← hs1, ← hs2]; first | (simp only [if_pos (by assumption : to_ = 0)]; done) | (simp only [if_neg (by assumption : ¬ to_ = 0)]; done)) | (rw [spanS_no hi0.1 (by assumption), ← hs1])), (by first | (rw [spanS_yes hi0.1 (by assumption)]; done) | (rw [spanS_no hi0.1 (by assumption), ← hs2])), (by omega), rfl⟩
      · refine aw_reg [(1, .dec false)] [2, 3, 6, 8, 37] [2, 3] [.ref 2 0, .ref 3 0, I fr_, I k, Bv false] [some (.box [Sv l.Text, I l.X, I l.Y, I l.Cell]), some (.box [I b.X1, I b.Y1, I b.X2, I b.Y2])] [¬ (to_ = 0)] (by kernel_rfl) hB ⟨h3, trivial⟩ ?_
        refine ae_then ?_
        refine aw_false rfl ?_
        refine aw_skip ?_
        refine ae_then ?_
        refine aw_reg [] [2, 3, 6, 7, 8] [2, 3] [.ref 2 0, .ref 3 0, I fr_, I (k + 1), I k] [some (.box [Sv l.Text, I l.X, I l.Y, I l.Cell]), some (.box [I b.X1, I b.Y1, I b.X2, I b.Y2])] [inR .i64 (k + 1)] (by kernel_rfl) hB ⟨(inR_i64 (by omega) (by omega)), trivial⟩ ?_
        refine ae_block 1 ?_
        refine ae_then ?_
        refine aw_reg [] [2, 3, 6, 7, 8] [2, 3] [.ref 2 0, .ref 3 0, I fr_, I (k + 1), I (k + 1)] [some (.box [Sv l.Text, I l.X, I l.Y, I l.Cell]), some (.box [I b.X1, I b.Y1, I b.X2, I b.Y2])] [inR .i64 (k + 1)] (by kernel_rfl) hB ⟨(inR_i64 (by omega) (by omega)), trivial⟩ ?_
        exact ae_again _ (by omega) ⟨fr_, (k + 1), (k + 1), rfl, (by omega), (by first | (rw [spanS_yes hi0.1 (by assumption), ← hs1, ← hs2]; first | (simp only [if_pos (by assumption : to_ = 0)]; done) | (simp only [if_neg (by assumption : ¬ to_ = 0)]; done)) | (rw [spanS_no hi0.1 (by assumption), ← hs1])), (by first | (rw [spanS_yes hi0.1 (by assumption)]; done) | (rw [spanS_no hi0.1 (by assumption), ← hs2])), (by omega), rfl⟩
    · have hqh2 : inB (2 * l.X + (2 * k + 1) * l.Cell) (2 * b.X1) (2 * b.X2) = false := by rw [← he]; exact h2
      refine aw_reg [(7, .call [(true, I ((2 * (l.X + (k * l.Cell))) + l.Cell)), (true, I (2 * b.X1)), (true, I (2 * b.X2))] true (Bv false))] [2, 3, 6, 7, 8, 35] [2, 3] [.ref 2 0, .ref 3 0, I fr_, I to_, I k, Bv false] [some (.box [Sv l.Text, I l.X, I l.Y, I l.Cell]), some (.box [I b.X1, I b.Y1, I b.X2, I b.Y2])] [inR .i64 (2 * b.X1), inR .i64 (2 * b.X2), Con Tryd.prog 35 [I ((2 * (l.X + (k * l.Cell))) + l.Cell), I (2 * b.X1), I (2 * b.X2)] true (Bv false) ∧ ((I ((2 * (l.X + (k * l.Cell))) + l.Cell) : AV) = I ((2 * (l.X + (k * l.Cell))) + l.Cell)) ∧ ((I (2 * b.X1) : AV) = I (2 * b.X1)) ∧ ((I (2 * b.X2) : AV) = I (2 * b.X2)) ∧ True] (by kernel_rfl) hB ⟨(inR_i64 (by omega) (by omega)), (inR_i64 (by omega) (by omega)), ⟨(con_bool h2 (within_ok ((2 * (l.X + (k * l.Cell))) + l.Cell) (2 * b.X1) (2 * b.X2))), rfl, rfl, rfl, trivial⟩, trivial⟩ ?_
      refine ae_then ?_
      refine aw_false rfl ?_
      refine aw_skip ?_
      refine ae_block 1 ?_
      refine ae_then ?_
      refine aw_reg [] [2, 3, 6, 7, 8] [2, 3] [.ref 2 0, .ref 3 0, I fr_, I to_, I (k + 1)] [some (.box [Sv l.Text, I l.X, I l.Y, I l.Cell]), some (.box [I b.X1, I b.Y1, I b.X2, I b.Y2])] [inR .i64 (k + 1)] (by kernel_rfl) hB ⟨(inR_i64 (by omega) (by omega)), trivial⟩ ?_
      exact ae_again _ (by omega) ⟨fr_, to_, (k + 1), rfl, (by omega), (by first | (rw [spanS_yes hi0.1 (by assumption), ← hs1, ← hs2]; first | (simp only [if_pos (by assumption : to_ = 0)]; done) | (simp only [if_neg (by assumption : ¬ to_ = 0)]; done)) | (rw [spanS_no hi0.1 (by assumption), ← hs1])), (by first | (rw [spanS_yes hi0.1 (by assumption)]; done) | (rw [spanS_no hi0.1 (by assumption), ← hs2])), (by omega), rfl⟩
  · have hie : k.toNat = l.Text.size := by omega
    rw [hie] at hs1 hs2
    refine aw_reg [(4, .dec false)] [2, 3, 6, 7, 8, 14] [2, 3] [.ref 2 0, .ref 3 0, I fr_, I to_, I k, Bv false] [some (.box [Sv l.Text, I l.X, I l.Y, I l.Cell]), some (.box [I b.X1, I b.Y1, I b.X2, I b.Y2])] [¬ (k < (l.Text.size : Int))] (by kernel_rfl) hB ⟨h1, trivial⟩ ?_
    refine ae_then ?_
    refine aw_false rfl ?_
    refine aw_exit ?_
    refine ae_exit_then ?_
    refine ae_exit_then ?_
    refine ae_exit_same ?_
    refine ae_then ?_
    refine aw_seq ?_
    refine aw_reg [] [4, 5] [] [I fr_, I to_] [] [] (by kernel_rfl) hB trivial ?_
    refine ae_then ?_
    refine aw_ret ?_
    refine ae_ret hB (.tup [I fr_, I to_]) (by kernel_rfl) (.inl (by rw [hs1, hs2])) rfl (fun _ => (by simp [tagged, taggedL]))


-- impl.EditOf
theorem implEditOf_ok (l : CellRow) (s : Stroke) (okl : l.Text.size ≤ 9223372036854775807) : Con Tryd.prog 25 [.agg [Sv l.Text, I l.X, I l.Y, I l.Cell], .agg [slPoint false s.Points]] true (.tup [.agg [I (((editOfR l s).1).Kind), I (((editOfR l s).1).From), I (((editOfR l s).1).To)], I ((editOfR l s).2)]) := by
  refine fn_ok (fn := Tryd.f25) (nt := 70) Tryd.func25 rfl rfl rfl rfl (by simp [taggedL, tagged, tagPoint]) fun B hB => ?_
  refine aw_lens (x := .agg [slPoint false s.Points]) 1 rfl (fun len_s => ?_)
  simp [LenOK, LenL, cPoint, fPoint, slPoint] at len_s
  refine aw_seq ?_
  refine aw_reg [(0, .new 2), (1, .new 3), (2, .new 4)] [2, 3, 4] [2, 3, 4] [.ref 2 0, .ref 3 0, .ref 4 0] [some (.box [Sv l.Text, I l.X, I l.Y, I l.Cell]), some (.box [slPoint false s.Points]), some (.box [I 0, I 0, I 0])] [] (by kernel_rfl) hB trivial ?_
  refine ae_then ?_
  refine aw_seq ?_
  refine aw_seq ?_
  rcases Bool.eq_false_or_eq_true (okRow l) with h1 | h1
  · have hr0 := h1
    have hr := okRow_iff.1 hr0
    rcases Bool.eq_false_or_eq_true (okStroke' s) with h2 | h2
    · have ok := h2
      have hln := okS_len ok
      have hbx := boxS_all ok
      unfold okBox at hbx
      have hpd := okP_iff.1 (okS_at ok (j := tipS s.Points s.Points.length) (tip_lt (by omega)))
      have htl := tip_lt (xs := s.Points) (by omega)
      have htn : ((tipS s.Points s.Points.length : Nat) : Int).toNat = tipS s.Points s.Points.length := Int.toNat_natCast _
      have hpd2 := hpd
      rw [← htn] at hpd2
      have hsp := spanS_bd l (boxS s.Points s.Points.length) l.Text.size
      refine aw_reg [(1, .call [(true, .agg [Sv l.Text, I l.X, I l.Y, I l.Cell])] true (Bv true)), (5, .call [(true, .agg [slPoint false s.Points])] true (Bv true))] [2, 3, 4, 18] [2, 3, 4] [.ref 2 0, .ref 3 0, .ref 4 0, Bv false] [some (.box [Sv l.Text, I l.X, I l.Y, I l.Cell]), some (.box [slPoint false s.Points]), some (.box [I 0, I 0, I 0])] [Con Tryd.prog 12 [.agg [Sv l.Text, I l.X, I l.Y, I l.Cell]] true (Bv true) ∧ ((.agg [Sv l.Text, I l.X, I l.Y, I l.Cell] : AV) = .agg [Sv l.Text, I l.X, I l.Y, I l.Cell]) ∧ True, Con Tryd.prog 44 [.agg [slPoint false s.Points]] true (Bv true) ∧ ((.agg [slPoint false s.Points] : AV) = .agg [slPoint false s.Points]) ∧ True] (by kernel_rfl) hB ⟨⟨(con_bool h1 (ValidCellRow_ok l okl)), rfl, trivial⟩, ⟨(con_bool h2 (ValidStroke_ok s)), rfl, trivial⟩, trivial⟩ ?_
      refine ae_then ?_
      refine aw_false rfl ?_
      refine aw_skip ?_
      refine ae_then ?_
      refine aw_seq ?_
      refine aw_reg [] [2, 3, 4] [2, 3, 4] [.ref 2 0, .ref 3 0, .ref 4 0] [some (.box [Sv l.Text, I l.X, I l.Y, I l.Cell]), some (.box [slPoint false s.Points]), some (.box [I 0, I 0, I 0])] [] (by kernel_rfl) hB trivial ?_
      refine ae_then ?_
      refine aw_seq ?_
      refine aw_seq ?_
      refine aw_reg [(1, .call [(true, .agg [slPoint false s.Points])] true (I (gestI s)))] [2, 3, 4, 21] [2, 3, 4] [.ref 2 0, .ref 3 0, .ref 4 0, I (gestI s)] [some (.box [Sv l.Text, I l.X, I l.Y, I l.Cell]), some (.box [slPoint false s.Points]), some (.box [I 0, I 0, I 0])] [Con Tryd.prog 45 [.agg [slPoint false s.Points]] true (I (gestI s)) ∧ ((.agg [slPoint false s.Points] : AV) = .agg [slPoint false s.Points]) ∧ True] (by kernel_rfl) hB ⟨⟨(gestureOf_ok s ok), rfl, trivial⟩, trivial⟩ ?_
      refine ae_then ?_
      refine aw_block ?_
      refine aw_seq ?_
      by_cases h3 : (gestI s) = 2
      · refine aw_reg [(0, .dec true)] [2, 3, 4, 21, 23] [2, 3, 4] [.ref 2 0, .ref 3 0, .ref 4 0, I (gestI s), Bv true] [some (.box [Sv l.Text, I l.X, I l.Y, I l.Cell]), some (.box [slPoint false s.Points]), some (.box [I 0, I 0, I 0])] [(gestI s) = 2] (by kernel_rfl) hB ⟨h3, trivial⟩ ?_
        refine ae_then ?_
        refine aw_true rfl ?_
        refine aw_reg [] [2, 3, 4, 6] [2, 3, 4] [.ref 2 0, .ref 3 0, .ref 4 0, I 1] [some (.box [Sv l.Text, I l.X, I l.Y, I l.Cell]), some (.box [slPoint false s.Points]), some (.box [I 0, I 0, I 0])] [] (by kernel_rfl) hB trivial ?_
        refine ae_block 0 ?_
        refine ae_then ?_
        refine aw_seq ?_
        refine aw_reg [(1, .call [(true, .agg [slPoint false s.Points])] true (.agg [I ((boxS s.Points s.Points.length).X1), I ((boxS s.Points s.Points.length).Y1), I ((boxS s.Points s.Points.length).X2), I ((boxS s.Points s.Points.length).Y2)])), (2, .new 7)] [2, 3, 4, 6, 7] [2, 3, 4, 7] [.ref 2 0, .ref 3 0, .ref 4 0, I 1, .ref 7 0] [some (.box [Sv l.Text, I l.X, I l.Y, I l.Cell]), some (.box [slPoint false s.Points]), some (.box [I 0, I 0, I 0]), some (.box [I ((boxS s.Points s.Points.length).X1), I ((boxS s.Points s.Points.length).Y1), I ((boxS s.Points s.Points.length).X2), I ((boxS s.Points s.Points.length).Y2)])] [Con Tryd.prog 46 [.agg [slPoint false s.Points]] true (.agg [I ((boxS s.Points s.Points.length).X1), I ((boxS s.Points s.Points.length).Y1), I ((boxS s.Points s.Points.length).X2), I ((boxS s.Points s.Points.length).Y2)]) ∧ ((.agg [slPoint false s.Points] : AV) = .agg [slPoint false s.Points]) ∧ True] (by kernel_rfl) hB ⟨⟨(boxOfStroke_ok s ok), rfl, trivial⟩, trivial⟩ ?_
        refine ae_then ?_
        refine aw_seq ?_
        refine aw_seq ?_
        by_cases h4 : (l.Y + (2 * l.Cell)) < ((boxS s.Points s.Points.length).Y1)
        · refine aw_reg [(8, .dec true)] [2, 3, 4, 6, 7, 46] [2, 3, 4, 7] [.ref 2 0, .ref 3 0, .ref 4 0, I 1, .ref 7 0, Bv true] [some (.box [Sv l.Text, I l.X, I l.Y, I l.Cell]), some (.box [slPoint false s.Points]), some (.box [I 0, I 0, I 0]), some (.box [I ((boxS s.Points s.Points.length).X1), I ((boxS s.Points s.Points.length).Y1), I ((boxS s.Points s.Points.length).X2), I ((boxS s.Points s.Points.length).Y2)])] [inR .i64 (2 * l.Cell), inR .i64 (l.Y + (2 * l.Cell)), (l.Y + (2 * l.Cell)) < ((boxS s.Points s.Points.length).Y1)] (by kernel_rfl) hB ⟨(inR_i64 (by omega) (by omega)), (inR_i64 (by omega) (by omega)), h4, trivial⟩ ?_
          refine ae_then ?_
          refine aw_true rfl ?_
          refine aw_seq ?_
          refine aw_reg [] [4, 5] [4] [.ref 4 0, I 3] [some (.box [I 0, I 0, I 0])] [] (by kernel_rfl) hB trivial ?_
          refine ae_then ?_
          refine aw_ret ?_
          refine ae_ret_then ?_
          refine ae_ret hB (.tup [.agg [I 0, I 0, I 0], I 3]) (by kernel_rfl) (.inl (by simp [editOfR, editR, kindI, *])) rfl (fun _ => (by simp [tagged, taggedL]))
        · by_cases h5 : ((boxS s.Points s.Points.length).Y2) < l.Y
          · refine aw_reg [(8, .dec false), (14, .dec true)] [2, 3, 4, 6, 7, 46] [2, 3, 4, 7] [.ref 2 0, .ref 3 0, .ref 4 0, I 1, .ref 7 0, Bv true] [some (.box [Sv l.Text, I l.X, I l.Y, I l.Cell]), some (.box [slPoint false s.Points]), some (.box [I 0, I 0, I 0]), some (.box [I ((boxS s.Points s.Points.length).X1), I ((boxS s.Points s.Points.length).Y1), I ((boxS s.Points s.Points.length).X2), I ((boxS s.Points s.Points.length).Y2)])] [inR .i64 (2 * l.Cell), inR .i64 (l.Y + (2 * l.Cell)), ¬ ((l.Y + (2 * l.Cell)) < ((boxS s.Points s.Points.length).Y1)), ((boxS s.Points s.Points.length).Y2) < l.Y] (by kernel_rfl) hB ⟨(inR_i64 (by omega) (by omega)), (inR_i64 (by omega) (by omega)), h4, h5, trivial⟩ ?_
            refine ae_then ?_
            refine aw_true rfl ?_
            refine aw_seq ?_
            refine aw_reg [] [4, 5] [4] [.ref 4 0, I 3] [some (.box [I 0, I 0, I 0])] [] (by kernel_rfl) hB trivial ?_
            refine ae_then ?_
            refine aw_ret ?_
            refine ae_ret_then ?_
            refine ae_ret hB (.tup [.agg [I 0, I 0, I 0], I 3]) (by kernel_rfl) (.inl (by simp [editOfR, editR, kindI, *])) rfl (fun _ => (by simp [tagged, taggedL]))
          · refine aw_reg [(8, .dec false), (14, .dec false)] [2, 3, 4, 6, 7, 46] [2, 3, 4, 7] [.ref 2 0, .ref 3 0, .ref 4 0, I 1, .ref 7 0, Bv false] [some (.box [Sv l.Text, I l.X, I l.Y, I l.Cell]), some (.box [slPoint false s.Points]), some (.box [I 0, I 0, I 0]), some (.box [I ((boxS s.Points s.Points.length).X1), I ((boxS s.Points s.Points.length).Y1), I ((boxS s.Points s.Points.length).X2), I ((boxS s.Points s.Points.length).Y2)])] [inR .i64 (2 * l.Cell), inR .i64 (l.Y + (2 * l.Cell)), ¬ ((l.Y + (2 * l.Cell)) < ((boxS s.Points s.Points.length).Y1)), ¬ (((boxS s.Points s.Points.length).Y2) < l.Y)] (by kernel_rfl) hB ⟨(inR_i64 (by omega) (by omega)), (inR_i64 (by omega) (by omega)), h4, h5, trivial⟩ ?_
            refine ae_then ?_
            refine aw_false rfl ?_
            refine aw_skip ?_
            refine ae_then ?_
            refine aw_seq ?_
            refine aw_seq ?_
            refine aw_reg [(1, .dec false)] [2, 3, 4, 6, 7, 49] [2, 3, 4, 7] [.ref 2 0, .ref 3 0, .ref 4 0, I 1, .ref 7 0, Bv false] [some (.box [Sv l.Text, I l.X, I l.Y, I l.Cell]), some (.box [slPoint false s.Points]), some (.box [I 0, I 0, I 0]), some (.box [I ((boxS s.Points s.Points.length).X1), I ((boxS s.Points s.Points.length).Y1), I ((boxS s.Points s.Points.length).X2), I ((boxS s.Points s.Points.length).Y2)])] [¬ ((1 : Int) = 3)] (by kernel_rfl) hB ⟨(by decide), trivial⟩ ?_
            refine ae_then ?_
            refine aw_false rfl ?_
            refine aw_skip ?_
            refine ae_then ?_
            refine aw_seq ?_
            refine aw_reg [(2, .call [(true, .agg [Sv l.Text, I l.X, I l.Y, I l.Cell]), (true, .agg [I ((boxS s.Points s.Points.length).X1), I ((boxS s.Points s.Points.length).Y1), I ((boxS s.Points s.Points.length).X2), I ((boxS s.Points s.Points.length).Y2)])] true (.tup [I ((spanS l (boxS s.Points s.Points.length) l.Text.size).1), I ((spanS l (boxS s.Points s.Points.length) l.Text.size).2)]))] [4, 6, 9, 10] [4] [.ref 4 0, I 1, I ((spanS l (boxS s.Points s.Points.length) l.Text.size).1), I ((spanS l (boxS s.Points s.Points.length) l.Text.size).2)] [some (.box [I 0, I 0, I 0])] [Con Tryd.prog 48 [.agg [Sv l.Text, I l.X, I l.Y, I l.Cell], .agg [I ((boxS s.Points s.Points.length).X1), I ((boxS s.Points s.Points.length).Y1), I ((boxS s.Points s.Points.length).X2), I ((boxS s.Points s.Points.length).Y2)]] true (.tup [I ((spanS l (boxS s.Points s.Points.length) l.Text.size).1), I ((spanS l (boxS s.Points s.Points.length) l.Text.size).2)]) ∧ ((.agg [Sv l.Text, I l.X, I l.Y, I l.Cell] : AV) = .agg [Sv l.Text, I l.X, I l.Y, I l.Cell]) ∧ ((.agg [I ((boxS s.Points s.Points.length).X1), I ((boxS s.Points s.Points.length).Y1), I ((boxS s.Points s.Points.length).X2), I ((boxS s.Points s.Points.length).Y2)] : AV) = .agg [I ((boxS s.Points s.Points.length).X1), I ((boxS s.Points s.Points.length).Y1), I ((boxS s.Points s.Points.length).X2), I ((boxS s.Points s.Points.length).Y2)]) ∧ True] (by kernel_rfl) hB ⟨⟨(lettersUnder_ok l (boxS s.Points s.Points.length) hr0 (by omega)), rfl, rfl, trivial⟩, trivial⟩ ?_
            refine ae_then ?_
            refine aw_seq ?_
            refine aw_seq ?_
            by_cases h6 : ((spanS l (boxS s.Points s.Points.length) l.Text.size).2) = 0
            · refine aw_reg [(1, .dec true)] [4, 6, 9, 10, 64] [4] [.ref 4 0, I 1, I ((spanS l (boxS s.Points s.Points.length) l.Text.size).1), I ((spanS l (boxS s.Points s.Points.length) l.Text.size).2), Bv true] [some (.box [I 0, I 0, I 0])] [((spanS l (boxS s.Points s.Points.length) l.Text.size).2) = 0] (by kernel_rfl) hB ⟨h6, trivial⟩ ?_
              refine ae_then ?_
              refine aw_true rfl ?_
              refine aw_seq ?_
              refine aw_reg [] [4, 5] [4] [.ref 4 0, I 3] [some (.box [I 0, I 0, I 0])] [] (by kernel_rfl) hB trivial ?_
              refine ae_then ?_
              refine aw_ret ?_
              refine ae_ret_then ?_
              refine ae_ret hB (.tup [.agg [I 0, I 0, I 0], I 3]) (by kernel_rfl) (.inl (by simp [editOfR, editR, kindI, *])) rfl (fun _ => (by simp [tagged, taggedL]))
            · refine aw_reg [(1, .dec false)] [4, 6, 9, 10, 64] [4] [.ref 4 0, I 1, I ((spanS l (boxS s.Points s.Points.length) l.Text.size).1), I ((spanS l (boxS s.Points s.Points.length) l.Text.size).2), Bv false] [some (.box [I 0, I 0, I 0])] [¬ (((spanS l (boxS s.Points s.Points.length) l.Text.size).2) = 0)] (by kernel_rfl) hB ⟨h6, trivial⟩ ?_
              refine ae_then ?_
              refine aw_false rfl ?_
              refine aw_skip ?_
              refine ae_then ?_
              refine aw_seq ?_
              refine aw_reg [] [4, 5] [4] [.ref 4 0, I 0] [some (.box [I 1, I ((spanS l (boxS s.Points s.Points.length) l.Text.size).1), I ((spanS l (boxS s.Points s.Points.length) l.Text.size).2)])] [] (by kernel_rfl) hB trivial ?_
              refine ae_then ?_
              refine aw_ret ?_
              refine ae_ret hB (.tup [.agg [I 1, I ((spanS l (boxS s.Points s.Points.length) l.Text.size).1), I ((spanS l (boxS s.Points s.Points.length) l.Text.size).2)], I 0]) (by kernel_rfl) (.inl (by simp [editOfR, editR, kindI, *])) rfl (fun _ => (by simp [tagged, taggedL]))
      · refine aw_reg [(0, .dec false)] [2, 3, 4, 21, 23] [2, 3, 4] [.ref 2 0, .ref 3 0, .ref 4 0, I (gestI s), Bv false] [some (.box [Sv l.Text, I l.X, I l.Y, I l.Cell]), some (.box [slPoint false s.Points]), some (.box [I 0, I 0, I 0])] [¬ ((gestI s) = 2)] (by kernel_rfl) hB ⟨h3, trivial⟩ ?_
        refine ae_then ?_
        refine aw_false rfl ?_
        refine aw_seq ?_
        by_cases h7 : (gestI s) = 3
        · refine aw_reg [(0, .dec true)] [2, 3, 4, 21, 25] [2, 3, 4] [.ref 2 0, .ref 3 0, .ref 4 0, I (gestI s), Bv true] [some (.box [Sv l.Text, I l.X, I l.Y, I l.Cell]), some (.box [slPoint false s.Points]), some (.box [I 0, I 0, I 0])] [(gestI s) = 3] (by kernel_rfl) hB ⟨h7, trivial⟩ ?_
          refine ae_then ?_
          refine aw_true rfl ?_
          refine aw_reg [] [2, 3, 4, 6] [2, 3, 4] [.ref 2 0, .ref 3 0, .ref 4 0, I 2] [some (.box [Sv l.Text, I l.X, I l.Y, I l.Cell]), some (.box [slPoint false s.Points]), some (.box [I 0, I 0, I 0])] [] (by kernel_rfl) hB trivial ?_
          refine ae_block 0 ?_
          refine ae_then ?_
          refine aw_seq ?_
          refine aw_reg [(1, .call [(true, .agg [slPoint false s.Points])] true (.agg [I ((boxS s.Points s.Points.length).X1), I ((boxS s.Points s.Points.length).Y1), I ((boxS s.Points s.Points.length).X2), I ((boxS s.Points s.Points.length).Y2)])), (2, .new 7)] [2, 3, 4, 6, 7] [2, 3, 4, 7] [.ref 2 0, .ref 3 0, .ref 4 0, I 2, .ref 7 0] [some (.box [Sv l.Text, I l.X, I l.Y, I l.Cell]), some (.box [slPoint false s.Points]), some (.box [I 0, I 0, I 0]), some (.box [I ((boxS s.Points s.Points.length).X1), I ((boxS s.Points s.Points.length).Y1), I ((boxS s.Points s.Points.length).X2), I ((boxS s.Points s.Points.length).Y2)])] [Con Tryd.prog 46 [.agg [slPoint false s.Points]] true (.agg [I ((boxS s.Points s.Points.length).X1), I ((boxS s.Points s.Points.length).Y1), I ((boxS s.Points s.Points.length).X2), I ((boxS s.Points s.Points.length).Y2)]) ∧ ((.agg [slPoint false s.Points] : AV) = .agg [slPoint false s.Points]) ∧ True] (by kernel_rfl) hB ⟨⟨(boxOfStroke_ok s ok), rfl, trivial⟩, trivial⟩ ?_
          refine ae_then ?_
          refine aw_seq ?_
          refine aw_seq ?_
          by_cases h8 : (l.Y + (2 * l.Cell)) < ((boxS s.Points s.Points.length).Y1)
          · refine aw_reg [(8, .dec true)] [2, 3, 4, 6, 7, 46] [2, 3, 4, 7] [.ref 2 0, .ref 3 0, .ref 4 0, I 2, .ref 7 0, Bv true] [some (.box [Sv l.Text, I l.X, I l.Y, I l.Cell]), some (.box [slPoint false s.Points]), some (.box [I 0, I 0, I 0]), some (.box [I ((boxS s.Points s.Points.length).X1), I ((boxS s.Points s.Points.length).Y1), I ((boxS s.Points s.Points.length).X2), I ((boxS s.Points s.Points.length).Y2)])] [inR .i64 (2 * l.Cell), inR .i64 (l.Y + (2 * l.Cell)), (l.Y + (2 * l.Cell)) < ((boxS s.Points s.Points.length).Y1)] (by kernel_rfl) hB ⟨(inR_i64 (by omega) (by omega)), (inR_i64 (by omega) (by omega)), h8, trivial⟩ ?_
            refine ae_then ?_
            refine aw_true rfl ?_
            refine aw_seq ?_
            refine aw_reg [] [4, 5] [4] [.ref 4 0, I 3] [some (.box [I 0, I 0, I 0])] [] (by kernel_rfl) hB trivial ?_
            refine ae_then ?_
            refine aw_ret ?_
            refine ae_ret_then ?_
            refine ae_ret hB (.tup [.agg [I 0, I 0, I 0], I 3]) (by kernel_rfl) (.inl (by simp [editOfR, editR, kindI, *])) rfl (fun _ => (by simp [tagged, taggedL]))
          · by_cases h9 : ((boxS s.Points s.Points.length).Y2) < l.Y
            · refine aw_reg [(8, .dec false), (14, .dec true)] [2, 3, 4, 6, 7, 46] [2, 3, 4, 7] [.ref 2 0, .ref 3 0, .ref 4 0, I 2, .ref 7 0, Bv true] [some (.box [Sv l.Text, I l.X, I l.Y, I l.Cell]), some (.box [slPoint false s.Points]), some (.box [I 0, I 0, I 0]), some (.box [I ((boxS s.Points s.Points.length).X1), I ((boxS s.Points s.Points.length).Y1), I ((boxS s.Points s.Points.length).X2), I ((boxS s.Points s.Points.length).Y2)])] [inR .i64 (2 * l.Cell), inR .i64 (l.Y + (2 * l.Cell)), ¬ ((l.Y + (2 * l.Cell)) < ((boxS s.Points s.Points.length).Y1)), ((boxS s.Points s.Points.length).Y2) < l.Y] (by kernel_rfl) hB ⟨(inR_i64 (by omega) (by omega)), (inR_i64 (by omega) (by omega)), h8, h9, trivial⟩ ?_
              refine ae_then ?_
              refine aw_true rfl ?_
              refine aw_seq ?_
              refine aw_reg [] [4, 5] [4] [.ref 4 0, I 3] [some (.box [I 0, I 0, I 0])] [] (by kernel_rfl) hB trivial ?_
              refine ae_then ?_
              refine aw_ret ?_
              refine ae_ret_then ?_
              refine ae_ret hB (.tup [.agg [I 0, I 0, I 0], I 3]) (by kernel_rfl) (.inl (by simp [editOfR, editR, kindI, *])) rfl (fun _ => (by simp [tagged, taggedL]))
            · refine aw_reg [(8, .dec false), (14, .dec false)] [2, 3, 4, 6, 7, 46] [2, 3, 4, 7] [.ref 2 0, .ref 3 0, .ref 4 0, I 2, .ref 7 0, Bv false] [some (.box [Sv l.Text, I l.X, I l.Y, I l.Cell]), some (.box [slPoint false s.Points]), some (.box [I 0, I 0, I 0]), some (.box [I ((boxS s.Points s.Points.length).X1), I ((boxS s.Points s.Points.length).Y1), I ((boxS s.Points s.Points.length).X2), I ((boxS s.Points s.Points.length).Y2)])] [inR .i64 (2 * l.Cell), inR .i64 (l.Y + (2 * l.Cell)), ¬ ((l.Y + (2 * l.Cell)) < ((boxS s.Points s.Points.length).Y1)), ¬ (((boxS s.Points s.Points.length).Y2) < l.Y)] (by kernel_rfl) hB ⟨(inR_i64 (by omega) (by omega)), (inR_i64 (by omega) (by omega)), h8, h9, trivial⟩ ?_
              refine ae_then ?_
              refine aw_false rfl ?_
              refine aw_skip ?_
              refine ae_then ?_
              refine aw_seq ?_
              refine aw_seq ?_
              refine aw_reg [(1, .dec false)] [2, 3, 4, 6, 7, 49] [2, 3, 4, 7] [.ref 2 0, .ref 3 0, .ref 4 0, I 2, .ref 7 0, Bv false] [some (.box [Sv l.Text, I l.X, I l.Y, I l.Cell]), some (.box [slPoint false s.Points]), some (.box [I 0, I 0, I 0]), some (.box [I ((boxS s.Points s.Points.length).X1), I ((boxS s.Points s.Points.length).Y1), I ((boxS s.Points s.Points.length).X2), I ((boxS s.Points s.Points.length).Y2)])] [¬ ((2 : Int) = 3)] (by kernel_rfl) hB ⟨(by decide), trivial⟩ ?_
              refine ae_then ?_
              refine aw_false rfl ?_
              refine aw_skip ?_
              refine ae_then ?_
              refine aw_seq ?_
              refine aw_reg [(2, .call [(true, .agg [Sv l.Text, I l.X, I l.Y, I l.Cell]), (true, .agg [I ((boxS s.Points s.Points.length).X1), I ((boxS s.Points s.Points.length).Y1), I ((boxS s.Points s.Points.length).X2), I ((boxS s.Points s.Points.length).Y2)])] true (.tup [I ((spanS l (boxS s.Points s.Points.length) l.Text.size).1), I ((spanS l (boxS s.Points s.Points.length) l.Text.size).2)]))] [4, 6, 9, 10] [4] [.ref 4 0, I 2, I ((spanS l (boxS s.Points s.Points.length) l.Text.size).1), I ((spanS l (boxS s.Points s.Points.length) l.Text.size).2)] [some (.box [I 0, I 0, I 0])] [Con Tryd.prog 48 [.agg [Sv l.Text, I l.X, I l.Y, I l.Cell], .agg [I ((boxS s.Points s.Points.length).X1), I ((boxS s.Points s.Points.length).Y1), I ((boxS s.Points s.Points.length).X2), I ((boxS s.Points s.Points.length).Y2)]] true (.tup [I ((spanS l (boxS s.Points s.Points.length) l.Text.size).1), I ((spanS l (boxS s.Points s.Points.length) l.Text.size).2)]) ∧ ((.agg [Sv l.Text, I l.X, I l.Y, I l.Cell] : AV) = .agg [Sv l.Text, I l.X, I l.Y, I l.Cell]) ∧ ((.agg [I ((boxS s.Points s.Points.length).X1), I ((boxS s.Points s.Points.length).Y1), I ((boxS s.Points s.Points.length).X2), I ((boxS s.Points s.Points.length).Y2)] : AV) = .agg [I ((boxS s.Points s.Points.length).X1), I ((boxS s.Points s.Points.length).Y1), I ((boxS s.Points s.Points.length).X2), I ((boxS s.Points s.Points.length).Y2)]) ∧ True] (by kernel_rfl) hB ⟨⟨(lettersUnder_ok l (boxS s.Points s.Points.length) hr0 (by omega)), rfl, rfl, trivial⟩, trivial⟩ ?_
              refine ae_then ?_
              refine aw_seq ?_
              refine aw_seq ?_
              by_cases h10 : ((spanS l (boxS s.Points s.Points.length) l.Text.size).2) = 0
              · refine aw_reg [(1, .dec true)] [4, 6, 9, 10, 64] [4] [.ref 4 0, I 2, I ((spanS l (boxS s.Points s.Points.length) l.Text.size).1), I ((spanS l (boxS s.Points s.Points.length) l.Text.size).2), Bv true] [some (.box [I 0, I 0, I 0])] [((spanS l (boxS s.Points s.Points.length) l.Text.size).2) = 0] (by kernel_rfl) hB ⟨h10, trivial⟩ ?_
                refine ae_then ?_
                refine aw_true rfl ?_
                refine aw_seq ?_
                refine aw_reg [] [4, 5] [4] [.ref 4 0, I 3] [some (.box [I 0, I 0, I 0])] [] (by kernel_rfl) hB trivial ?_
                refine ae_then ?_
                refine aw_ret ?_
                refine ae_ret_then ?_
                refine ae_ret hB (.tup [.agg [I 0, I 0, I 0], I 3]) (by kernel_rfl) (.inl (by simp [editOfR, editR, kindI, *])) rfl (fun _ => (by simp [tagged, taggedL]))
              · refine aw_reg [(1, .dec false)] [4, 6, 9, 10, 64] [4] [.ref 4 0, I 2, I ((spanS l (boxS s.Points s.Points.length) l.Text.size).1), I ((spanS l (boxS s.Points s.Points.length) l.Text.size).2), Bv false] [some (.box [I 0, I 0, I 0])] [¬ (((spanS l (boxS s.Points s.Points.length) l.Text.size).2) = 0)] (by kernel_rfl) hB ⟨h10, trivial⟩ ?_
                refine ae_then ?_
                refine aw_false rfl ?_
                refine aw_skip ?_
                refine ae_then ?_
                refine aw_seq ?_
                refine aw_reg [] [4, 5] [4] [.ref 4 0, I 0] [some (.box [I 2, I ((spanS l (boxS s.Points s.Points.length) l.Text.size).1), I ((spanS l (boxS s.Points s.Points.length) l.Text.size).2)])] [] (by kernel_rfl) hB trivial ?_
                refine ae_then ?_
                refine aw_ret ?_
                refine ae_ret hB (.tup [.agg [I 2, I ((spanS l (boxS s.Points s.Points.length) l.Text.size).1), I ((spanS l (boxS s.Points s.Points.length) l.Text.size).2)], I 0]) (by kernel_rfl) (.inl (by simp [editOfR, editR, kindI, *])) rfl (fun _ => (by simp [tagged, taggedL]))
        · refine aw_reg [(0, .dec false)] [2, 3, 4, 21, 25] [2, 3, 4] [.ref 2 0, .ref 3 0, .ref 4 0, I (gestI s), Bv false] [some (.box [Sv l.Text, I l.X, I l.Y, I l.Cell]), some (.box [slPoint false s.Points]), some (.box [I 0, I 0, I 0])] [¬ ((gestI s) = 3)] (by kernel_rfl) hB ⟨h7, trivial⟩ ?_
          refine ae_then ?_
          refine aw_false rfl ?_
          refine aw_seq ?_
          by_cases h11 : (gestI s) = 4
          · refine aw_reg [(0, .dec true)] [2, 3, 4, 27] [2, 3, 4] [.ref 2 0, .ref 3 0, .ref 4 0, Bv true] [some (.box [Sv l.Text, I l.X, I l.Y, I l.Cell]), some (.box [slPoint false s.Points]), some (.box [I 0, I 0, I 0])] [(gestI s) = 4] (by kernel_rfl) hB ⟨h11, trivial⟩ ?_
            refine ae_then ?_
            refine aw_true rfl ?_
            refine aw_reg [] [2, 3, 4, 6] [2, 3, 4] [.ref 2 0, .ref 3 0, .ref 4 0, I 3] [some (.box [Sv l.Text, I l.X, I l.Y, I l.Cell]), some (.box [slPoint false s.Points]), some (.box [I 0, I 0, I 0])] [] (by kernel_rfl) hB trivial ?_
            refine ae_block 0 ?_
            refine ae_then ?_
            refine aw_seq ?_
            refine aw_reg [(1, .call [(true, .agg [slPoint false s.Points])] true (.agg [I ((boxS s.Points s.Points.length).X1), I ((boxS s.Points s.Points.length).Y1), I ((boxS s.Points s.Points.length).X2), I ((boxS s.Points s.Points.length).Y2)])), (2, .new 7)] [2, 3, 4, 6, 7] [2, 3, 4, 7] [.ref 2 0, .ref 3 0, .ref 4 0, I 3, .ref 7 0] [some (.box [Sv l.Text, I l.X, I l.Y, I l.Cell]), some (.box [slPoint false s.Points]), some (.box [I 0, I 0, I 0]), some (.box [I ((boxS s.Points s.Points.length).X1), I ((boxS s.Points s.Points.length).Y1), I ((boxS s.Points s.Points.length).X2), I ((boxS s.Points s.Points.length).Y2)])] [Con Tryd.prog 46 [.agg [slPoint false s.Points]] true (.agg [I ((boxS s.Points s.Points.length).X1), I ((boxS s.Points s.Points.length).Y1), I ((boxS s.Points s.Points.length).X2), I ((boxS s.Points s.Points.length).Y2)]) ∧ ((.agg [slPoint false s.Points] : AV) = .agg [slPoint false s.Points]) ∧ True] (by kernel_rfl) hB ⟨⟨(boxOfStroke_ok s ok), rfl, trivial⟩, trivial⟩ ?_
            refine ae_then ?_
            refine aw_seq ?_
            refine aw_seq ?_
            by_cases h12 : (l.Y + (2 * l.Cell)) < ((boxS s.Points s.Points.length).Y1)
            · refine aw_reg [(8, .dec true)] [2, 3, 4, 6, 7, 46] [2, 3, 4, 7] [.ref 2 0, .ref 3 0, .ref 4 0, I 3, .ref 7 0, Bv true] [some (.box [Sv l.Text, I l.X, I l.Y, I l.Cell]), some (.box [slPoint false s.Points]), some (.box [I 0, I 0, I 0]), some (.box [I ((boxS s.Points s.Points.length).X1), I ((boxS s.Points s.Points.length).Y1), I ((boxS s.Points s.Points.length).X2), I ((boxS s.Points s.Points.length).Y2)])] [inR .i64 (2 * l.Cell), inR .i64 (l.Y + (2 * l.Cell)), (l.Y + (2 * l.Cell)) < ((boxS s.Points s.Points.length).Y1)] (by kernel_rfl) hB ⟨(inR_i64 (by omega) (by omega)), (inR_i64 (by omega) (by omega)), h12, trivial⟩ ?_
              refine ae_then ?_
              refine aw_true rfl ?_
              refine aw_seq ?_
              refine aw_reg [] [4, 5] [4] [.ref 4 0, I 3] [some (.box [I 0, I 0, I 0])] [] (by kernel_rfl) hB trivial ?_
              refine ae_then ?_
              refine aw_ret ?_
              refine ae_ret_then ?_
              refine ae_ret hB (.tup [.agg [I 0, I 0, I 0], I 3]) (by kernel_rfl) (.inl (by simp [editOfR, editR, kindI, *])) rfl (fun _ => (by simp [tagged, taggedL]))
            · by_cases h13 : ((boxS s.Points s.Points.length).Y2) < l.Y
              · refine aw_reg [(8, .dec false), (14, .dec true)] [2, 3, 4, 6, 7, 46] [2, 3, 4, 7] [.ref 2 0, .ref 3 0, .ref 4 0, I 3, .ref 7 0, Bv true] [some (.box [Sv l.Text, I l.X, I l.Y, I l.Cell]), some (.box [slPoint false s.Points]), some (.box [I 0, I 0, I 0]), some (.box [I ((boxS s.Points s.Points.length).X1), I ((boxS s.Points s.Points.length).Y1), I ((boxS s.Points s.Points.length).X2), I ((boxS s.Points s.Points.length).Y2)])] [inR .i64 (2 * l.Cell), inR .i64 (l.Y + (2 * l.Cell)), ¬ ((l.Y + (2 * l.Cell)) < ((boxS s.Points s.Points.length).Y1)), ((boxS s.Points s.Points.length).Y2) < l.Y] (by kernel_rfl) hB ⟨(inR_i64 (by omega) (by omega)), (inR_i64 (by omega) (by omega)), h12, h13, trivial⟩ ?_
                refine ae_then ?_
                refine aw_true rfl ?_
                refine aw_seq ?_
                refine aw_reg [] [4, 5] [4] [.ref 4 0, I 3] [some (.box [I 0, I 0, I 0])] [] (by kernel_rfl) hB trivial ?_
                refine ae_then ?_
                refine aw_ret ?_
                refine ae_ret_then ?_
                refine ae_ret hB (.tup [.agg [I 0, I 0, I 0], I 3]) (by kernel_rfl) (.inl (by simp [editOfR, editR, kindI, *])) rfl (fun _ => (by simp [tagged, taggedL]))
              · refine aw_reg [(8, .dec false), (14, .dec false)] [2, 3, 4, 6, 7, 46] [2, 3, 4, 7] [.ref 2 0, .ref 3 0, .ref 4 0, I 3, .ref 7 0, Bv false] [some (.box [Sv l.Text, I l.X, I l.Y, I l.Cell]), some (.box [slPoint false s.Points]), some (.box [I 0, I 0, I 0]), some (.box [I ((boxS s.Points s.Points.length).X1), I ((boxS s.Points s.Points.length).Y1), I ((boxS s.Points s.Points.length).X2), I ((boxS s.Points s.Points.length).Y2)])] [inR .i64 (2 * l.Cell), inR .i64 (l.Y + (2 * l.Cell)), ¬ ((l.Y + (2 * l.Cell)) < ((boxS s.Points s.Points.length).Y1)), ¬ (((boxS s.Points s.Points.length).Y2) < l.Y)] (by kernel_rfl) hB ⟨(inR_i64 (by omega) (by omega)), (inR_i64 (by omega) (by omega)), h12, h13, trivial⟩ ?_
                refine ae_then ?_
                refine aw_false rfl ?_
                refine aw_skip ?_
                refine ae_then ?_
                refine aw_seq ?_
                refine aw_seq ?_
                refine aw_reg [(1, .dec true)] [2, 3, 4, 6, 7, 49] [2, 3, 4, 7] [.ref 2 0, .ref 3 0, .ref 4 0, I 3, .ref 7 0, Bv true] [some (.box [Sv l.Text, I l.X, I l.Y, I l.Cell]), some (.box [slPoint false s.Points]), some (.box [I 0, I 0, I 0]), some (.box [I ((boxS s.Points s.Points.length).X1), I ((boxS s.Points s.Points.length).Y1), I ((boxS s.Points s.Points.length).X2), I ((boxS s.Points s.Points.length).Y2)])] [(3 : Int) = 3] (by kernel_rfl) hB ⟨(by decide), trivial⟩ ?_
                refine ae_then ?_
                refine aw_true rfl ?_
                refine aw_seq ?_
                refine aw_reg [(2, .call [(true, .agg [Sv l.Text, I l.X, I l.Y, I l.Cell]), (true, .agg [slPoint false s.Points])] true (I (placeS l (at_ s.Points (tipS s.Points s.Points.length)).X l.Text.size)))] [4, 6, 8] [4] [.ref 4 0, I 3, I (placeS l (at_ s.Points (tipS s.Points s.Points.length)).X l.Text.size)] [some (.box [I 0, I 0, I 0])] [Con Tryd.prog 47 [.agg [Sv l.Text, I l.X, I l.Y, I l.Cell], .agg [slPoint false s.Points]] true (I (placeS l (at_ s.Points (tipS s.Points s.Points.length)).X l.Text.size)) ∧ ((.agg [Sv l.Text, I l.X, I l.Y, I l.Cell] : AV) = .agg [Sv l.Text, I l.X, I l.Y, I l.Cell]) ∧ ((.agg [slPoint false s.Points] : AV) = .agg [slPoint false s.Points]) ∧ True] (by kernel_rfl) hB ⟨⟨(insertPlace_ok l s hr0 ok), rfl, rfl, trivial⟩, trivial⟩ ?_
                refine ae_then ?_
                refine aw_seq ?_
                refine aw_reg [] [4, 5] [4] [.ref 4 0, I 0] [some (.box [I 3, I (placeS l (at_ s.Points (tipS s.Points s.Points.length)).X l.Text.size), I (placeS l (at_ s.Points (tipS s.Points s.Points.length)).X l.Text.size)])] [] (by kernel_rfl) hB trivial ?_
                refine ae_then ?_
                refine aw_ret ?_
                refine ae_ret_then ?_
                refine ae_ret hB (.tup [.agg [I 3, I (placeS l (at_ s.Points (tipS s.Points s.Points.length)).X l.Text.size), I (placeS l (at_ s.Points (tipS s.Points s.Points.length)).X l.Text.size)], I 0]) (by kernel_rfl) (.inl (by simp [editOfR, editR, kindI, *])) rfl (fun _ => (by simp [tagged, taggedL]))
          · refine aw_reg [(0, .dec false)] [2, 3, 4, 27] [2, 3, 4] [.ref 2 0, .ref 3 0, .ref 4 0, Bv false] [some (.box [Sv l.Text, I l.X, I l.Y, I l.Cell]), some (.box [slPoint false s.Points]), some (.box [I 0, I 0, I 0])] [¬ ((gestI s) = 4)] (by kernel_rfl) hB ⟨h11, trivial⟩ ?_
            refine ae_then ?_
            refine aw_false rfl ?_
            refine aw_seq ?_
            refine aw_reg [] [4, 5] [4] [.ref 4 0, I 6] [some (.box [I 0, I 0, I 0])] [] (by kernel_rfl) hB trivial ?_
            refine ae_then ?_
            refine aw_ret ?_
            refine ae_ret_block (ae_ret_then ?_)
            refine ae_ret hB (.tup [.agg [I 0, I 0, I 0], I 6]) (by kernel_rfl) (.inl (by simp [editOfR, editR, kindI, *])) rfl (fun _ => (by simp [tagged, taggedL]))
    · refine aw_reg [(1, .call [(true, .agg [Sv l.Text, I l.X, I l.Y, I l.Cell])] true (Bv true)), (5, .call [(true, .agg [slPoint false s.Points])] true (Bv false))] [2, 3, 4, 18] [2, 3, 4] [.ref 2 0, .ref 3 0, .ref 4 0, Bv true] [some (.box [Sv l.Text, I l.X, I l.Y, I l.Cell]), some (.box [slPoint false s.Points]), some (.box [I 0, I 0, I 0])] [Con Tryd.prog 12 [.agg [Sv l.Text, I l.X, I l.Y, I l.Cell]] true (Bv true) ∧ ((.agg [Sv l.Text, I l.X, I l.Y, I l.Cell] : AV) = .agg [Sv l.Text, I l.X, I l.Y, I l.Cell]) ∧ True, Con Tryd.prog 44 [.agg [slPoint false s.Points]] true (Bv false) ∧ ((.agg [slPoint false s.Points] : AV) = .agg [slPoint false s.Points]) ∧ True] (by kernel_rfl) hB ⟨⟨(con_bool h1 (ValidCellRow_ok l okl)), rfl, trivial⟩, ⟨(con_bool h2 (ValidStroke_ok s)), rfl, trivial⟩, trivial⟩ ?_
      refine ae_then ?_
      refine aw_true rfl ?_
      refine aw_seq ?_
      refine aw_reg [] [4, 5] [4] [.ref 4 0, I 1] [some (.box [I 0, I 0, I 0])] [] (by kernel_rfl) hB trivial ?_
      refine ae_then ?_
      refine aw_ret ?_
      refine ae_ret_then ?_
      refine ae_ret hB (.tup [.agg [I 0, I 0, I 0], I 1]) (by kernel_rfl) (.inl (by simp [editOfR, editR, kindI, *])) rfl (fun _ => (by simp [tagged, taggedL]))
  · refine aw_reg [(1, .call [(true, .agg [Sv l.Text, I l.X, I l.Y, I l.Cell])] true (Bv false))] [2, 3, 4, 18] [2, 3, 4] [.ref 2 0, .ref 3 0, .ref 4 0, Bv true] [some (.box [Sv l.Text, I l.X, I l.Y, I l.Cell]), some (.box [slPoint false s.Points]), some (.box [I 0, I 0, I 0])] [Con Tryd.prog 12 [.agg [Sv l.Text, I l.X, I l.Y, I l.Cell]] true (Bv false) ∧ ((.agg [Sv l.Text, I l.X, I l.Y, I l.Cell] : AV) = .agg [Sv l.Text, I l.X, I l.Y, I l.Cell]) ∧ True] (by kernel_rfl) hB ⟨⟨(con_bool h1 (ValidCellRow_ok l okl)), rfl, trivial⟩, trivial⟩ ?_
    refine ae_then ?_
    refine aw_true rfl ?_
    refine aw_seq ?_
    refine aw_reg [] [4, 5] [4] [.ref 4 0, I 1] [some (.box [I 0, I 0, I 0])] [] (by kernel_rfl) hB trivial ?_
    refine ae_then ?_
    refine aw_ret ?_
    refine ae_ret_then ?_
    refine ae_ret hB (.tup [.agg [I 0, I 0, I 0], I 1]) (by kernel_rfl) (.inl (by simp [editOfR, editR, kindI, *])) rfl (fun _ => (by simp [tagged, taggedL]))


-- impl.ApplyEdit
theorem implApplyEdit_ok (l : CellRow) (e : Edit) (insert : ByteArray) (okl : l.Text.size ≤ 9223372036854775807) (oki : insert.size ≤ 1048576) : Con Tryd.prog 17 [.agg [Sv l.Text, I l.X, I l.Y, I l.Cell], .agg [I e.Kind, I e.From, I e.To], Sv insert] true (.tup [.agg [Sv ((applyRow l e insert).Text), I ((applyRow l e insert).X), I ((applyRow l e insert).Y), I ((applyRow l e insert).Cell)], I (chkI l e insert)]) := by
  have hnil := ba_nil
  refine fn_ok (fn := Tryd.f17) (nt := 82) Tryd.func17 rfl rfl rfl rfl (by simp [taggedL, tagged]) fun B hB => ?_
  refine aw_seq ?_
  refine aw_reg [(0, .new 3), (1, .new 4), (2, .new 6)] [2, 3, 4, 6] [3, 4, 6] [Sv insert, .ref 3 0, .ref 4 0, .ref 6 0] [some (.box [Sv l.Text, I l.X, I l.Y, I l.Cell]), some (.box [I e.Kind, I e.From, I e.To]), some (.box [Sv (⟨#[]⟩ : ByteArray), I 0, I 0, I 0])] [] (by kernel_rfl) hB trivial ?_
  refine ae_then ?_
  refine aw_seq ?_
  refine aw_seq ?_
  rcases Bool.eq_false_or_eq_true (okRow l) with h1 | h1
  · have hr := okRow_iff.1 h1
    rcases Bool.eq_false_or_eq_true (lettersB insert) with h2 | h2
    · rcases Bool.eq_false_or_eq_true (inB e.Kind 1 3) with h3 | h3
      · have hinh3 := inB_iff.1 h3
        refine aw_reg [(1, .call [(true, .agg [Sv l.Text, I l.X, I l.Y, I l.Cell])] true (Bv true)), (5, .call [(true, Sv insert)] true (Bv true)), (11, .call [(true, I e.Kind), (true, I 1), (true, I 3)] true (Bv true))] [2, 3, 4, 6, 21] [3, 4, 6] [Sv insert, .ref 3 0, .ref 4 0, .ref 6 0, Bv false] [some (.box [Sv l.Text, I l.X, I l.Y, I l.Cell]), some (.box [I e.Kind, I e.From, I e.To]), some (.box [Sv (⟨#[]⟩ : ByteArray), I 0, I 0, I 0])] [Con Tryd.prog 12 [.agg [Sv l.Text, I l.X, I l.Y, I l.Cell]] true (Bv true) ∧ ((.agg [Sv l.Text, I l.X, I l.Y, I l.Cell] : AV) = .agg [Sv l.Text, I l.X, I l.Y, I l.Cell]) ∧ True, Con Tryd.prog 33 [Sv insert] true (Bv true) ∧ ((Sv insert : AV) = Sv insert) ∧ True, Con Tryd.prog 35 [I e.Kind, I 1, I 3] true (Bv true) ∧ ((I e.Kind : AV) = I e.Kind) ∧ ((I 1 : AV) = I 1) ∧ ((I 3 : AV) = I 3) ∧ True] (by kernel_rfl) hB ⟨⟨(con_bool h1 (ValidCellRow_ok l okl)), rfl, trivial⟩, ⟨(con_bool h2 (areCells_ok insert (by omega))), rfl, trivial⟩, ⟨(con_bool h3 (within_ok e.Kind 1 3)), rfl, rfl, rfl, trivial⟩, trivial⟩ ?_
        refine ae_then ?_
        refine aw_false rfl ?_
        refine aw_skip ?_
        refine ae_then ?_
        refine aw_seq ?_
        refine aw_seq ?_
        rcases Bool.eq_false_or_eq_true (inB e.From 0 e.To) with h4 | h4
        · have hinh4 := inB_iff.1 h4
          by_cases h5 : (l.Text.size : Int) < e.To
          · refine aw_reg [(4, .call [(true, I e.From), (true, I 0), (true, I e.To)] true (Bv true)), (12, .dec true)] [2, 3, 4, 6, 48] [3, 4, 6] [Sv insert, .ref 3 0, .ref 4 0, .ref 6 0, Bv true] [some (.box [Sv l.Text, I l.X, I l.Y, I l.Cell]), some (.box [I e.Kind, I e.From, I e.To]), some (.box [Sv (⟨#[]⟩ : ByteArray), I 0, I 0, I 0])] [Con Tryd.prog 35 [I e.From, I 0, I e.To] true (Bv true) ∧ ((I e.From : AV) = I e.From) ∧ ((I 0 : AV) = I 0) ∧ ((I e.To : AV) = I e.To) ∧ True, (l.Text.size : Int) < e.To] (by kernel_rfl) hB ⟨⟨(con_bool h4 (within_ok e.From 0 e.To)), rfl, rfl, rfl, trivial⟩, h5, trivial⟩ ?_
            refine ae_then ?_
            refine aw_true rfl ?_
            refine aw_seq ?_
            refine aw_reg [] [6, 7] [6] [.ref 6 0, I 2] [some (.box [Sv (⟨#[]⟩ : ByteArray), I 0, I 0, I 0])] [] (by kernel_rfl) hB trivial ?_
            refine ae_then ?_
            refine aw_ret ?_
            refine ae_ret_then ?_
            refine ae_ret hB (.tup [.agg [Sv (⟨#[]⟩ : ByteArray), I 0, I 0, I 0], I 2]) (by kernel_rfl) (.inl (by first | (have hk : chkI l e insert = 1 := chk_1 (by simp [*]); rw [applyRow_ne hk (by decide), hk]; done) | (have hk : chkI l e insert = 2 := chk_2 (by assumption) (by assumption) (by assumption) (by omega); rw [applyRow_ne hk (by decide), hk]; done) | (have hk : chkI l e insert = 5 := chk_5 (by assumption) (by assumption) (by assumption) (by omega) (by omega); rw [applyRow_ne hk (by decide), hk]; done) | (have hk : chkI l e insert = 0 := chk_0 (by assumption) (by assumption) (by assumption) (by omega) (by omega); rw [applyRow_eq hk, hk]; simp [applyL, applyT, *]; done) | (exfalso; omega))) rfl (fun _ => (by simp [tagged, taggedL]))
          · by_cases h6 : e.Kind = 3
            · by_cases h7 : e.From = e.To
              · refine aw_reg [(4, .call [(true, I e.From), (true, I 0), (true, I e.To)] true (Bv true)), (12, .dec false), (17, .dec true), (23, .dec false)] [2, 3, 4, 6, 48] [3, 4, 6] [Sv insert, .ref 3 0, .ref 4 0, .ref 6 0, Bv false] [some (.box [Sv l.Text, I l.X, I l.Y, I l.Cell]), some (.box [I e.Kind, I e.From, I e.To]), some (.box [Sv (⟨#[]⟩ : ByteArray), I 0, I 0, I 0])] [Con Tryd.prog 35 [I e.From, I 0, I e.To] true (Bv true) ∧ ((I e.From : AV) = I e.From) ∧ ((I 0 : AV) = I 0) ∧ ((I e.To : AV) = I e.To) ∧ True, ¬ ((l.Text.size : Int) < e.To), e.Kind = 3, ¬ (e.From ≠ e.To)] (by kernel_rfl) hB ⟨⟨(con_bool h4 (within_ok e.From 0 e.To)), rfl, rfl, rfl, trivial⟩, h5, h6, (fun hq => hq h7), trivial⟩ ?_
                refine ae_then ?_
                refine aw_false rfl ?_
                refine aw_skip ?_
                refine ae_then ?_
                refine aw_seq ?_
                refine aw_seq ?_
                by_cases h8 : e.Kind = 1
                · refine aw_reg [(2, .dec true)] [2, 3, 4, 6, 52] [3, 4, 6] [Sv insert, .ref 3 0, .ref 4 0, .ref 6 0, Bv true] [some (.box [Sv l.Text, I l.X, I l.Y, I l.Cell]), some (.box [I e.Kind, I e.From, I e.To]), some (.box [Sv (⟨#[]⟩ : ByteArray), I 0, I 0, I 0])] [e.Kind = 1] (by kernel_rfl) hB ⟨h8, trivial⟩ ?_
                  refine ae_then ?_
                  refine aw_true rfl ?_
                  refine aw_reg [] [2, 3, 4, 6] [3, 4, 6] [Sv (⟨#[]⟩ : ByteArray), .ref 3 0, .ref 4 0, .ref 6 0] [some (.box [Sv l.Text, I l.X, I l.Y, I l.Cell]), some (.box [I e.Kind, I e.From, I e.To]), some (.box [Sv (⟨#[]⟩ : ByteArray), I 0, I 0, I 0])] [] (by kernel_rfl) hB trivial ?_
                  refine ae_then ?_
                  refine aw_seq ?_
                  refine aw_seq ?_
                  by_cases h9 : 60 < (((l.Text.size : Int) + ((⟨#[]⟩ : ByteArray).size : Int)) - (e.To - e.From))
                  · refine aw_reg [(12, .dec true)] [2, 3, 4, 6, 65] [3, 4, 6] [Sv (⟨#[]⟩ : ByteArray), .ref 3 0, .ref 4 0, .ref 6 0, Bv true] [some (.box [Sv l.Text, I l.X, I l.Y, I l.Cell]), some (.box [I e.Kind, I e.From, I e.To]), some (.box [Sv (⟨#[]⟩ : ByteArray), I 0, I 0, I 0])] [inR .i64 ((l.Text.size : Int) + ((⟨#[]⟩ : ByteArray).size : Int)), inR .i64 (e.To - e.From), inR .i64 (((l.Text.size : Int) + ((⟨#[]⟩ : ByteArray).size : Int)) - (e.To - e.From)), 60 < (((l.Text.size : Int) + ((⟨#[]⟩ : ByteArray).size : Int)) - (e.To - e.From))] (by kernel_rfl) hB ⟨(inR_i64 (by omega) (by omega)), (inR_i64 (by omega) (by omega)), (inR_i64 (by omega) (by omega)), h9, trivial⟩ ?_
                    refine ae_then ?_
                    refine aw_true rfl ?_
                    refine aw_seq ?_
                    refine aw_reg [] [6, 7] [6] [.ref 6 0, I 5] [some (.box [Sv (⟨#[]⟩ : ByteArray), I 0, I 0, I 0])] [] (by kernel_rfl) hB trivial ?_
                    refine ae_then ?_
                    refine aw_ret ?_
                    refine ae_ret_then ?_
                    refine ae_ret hB (.tup [.agg [Sv (⟨#[]⟩ : ByteArray), I 0, I 0, I 0], I 5]) (by kernel_rfl) (.inl (by first | (have hk : chkI l e insert = 1 := chk_1 (by simp [*]); rw [applyRow_ne hk (by decide), hk]; done) | (have hk : chkI l e insert = 2 := chk_2 (by assumption) (by assumption) (by assumption) (by omega); rw [applyRow_ne hk (by decide), hk]; done) | (have hk : chkI l e insert = 5 := chk_5 (by assumption) (by assumption) (by assumption) (by omega) (by omega); rw [applyRow_ne hk (by decide), hk]; done) | (have hk : chkI l e insert = 0 := chk_0 (by assumption) (by assumption) (by assumption) (by omega) (by omega); rw [applyRow_eq hk, hk]; simp [applyL, applyT, *]; done) | (exfalso; omega))) rfl (fun _ => (by simp [tagged, taggedL]))
                  · refine aw_reg [(12, .dec false)] [2, 3, 4, 6, 65] [3, 4, 6] [Sv (⟨#[]⟩ : ByteArray), .ref 3 0, .ref 4 0, .ref 6 0, Bv false] [some (.box [Sv l.Text, I l.X, I l.Y, I l.Cell]), some (.box [I e.Kind, I e.From, I e.To]), some (.box [Sv (⟨#[]⟩ : ByteArray), I 0, I 0, I 0])] [inR .i64 ((l.Text.size : Int) + ((⟨#[]⟩ : ByteArray).size : Int)), inR .i64 (e.To - e.From), inR .i64 (((l.Text.size : Int) + ((⟨#[]⟩ : ByteArray).size : Int)) - (e.To - e.From)), ¬ (60 < (((l.Text.size : Int) + ((⟨#[]⟩ : ByteArray).size : Int)) - (e.To - e.From)))] (by kernel_rfl) hB ⟨(inR_i64 (by omega) (by omega)), (inR_i64 (by omega) (by omega)), (inR_i64 (by omega) (by omega)), h9, trivial⟩ ?_
                    refine ae_then ?_
                    refine aw_false rfl ?_
                    refine aw_skip ?_
                    refine ae_then ?_
                    refine aw_seq ?_
                    refine aw_reg [] [3, 6] [3, 6] [.ref 3 0, .ref 6 0] [some (.box [Sv (((l.Text.extract 0 e.From.toNat) ++ (⟨#[]⟩ : ByteArray)) ++ (l.Text.extract e.To.toNat (l.Text.size : Int).toNat)), I l.X, I l.Y, I l.Cell]), some (.box [Sv (⟨#[]⟩ : ByteArray), I 0, I 0, I 0])] [(0 : Int) ≤ 0 ∧ (0 : Int) ≤ e.From ∧ e.From ≤ (l.Text.size : Int), (l.Text.extract 0 e.From.toNat).size + (⟨#[]⟩ : ByteArray).size ≤ 9223372036854775807, (0 : Int) ≤ e.To ∧ e.To ≤ (l.Text.size : Int) ∧ (l.Text.size : Int) ≤ (l.Text.size : Int), ((l.Text.extract 0 e.From.toNat) ++ (⟨#[]⟩ : ByteArray)).size + (l.Text.extract e.To.toNat (l.Text.size : Int).toNat).size ≤ 9223372036854775807] (by kernel_rfl) hB ⟨⟨(by omega), (by omega), (by omega)⟩, (by first | omega | (simp only [ByteArray.size_append, ba_ext, ba_nil]; omega)), ⟨(by omega), (by omega), (by omega)⟩, (by first | omega | (simp only [ByteArray.size_append, ba_ext, ba_nil]; omega)), trivial⟩ ?_
                    refine ae_then ?_
                    refine aw_seq ?_
                    refine aw_reg [] [6, 7] [6] [.ref 6 0, I 0] [some (.box [Sv (((l.Text.extract 0 e.From.toNat) ++ (⟨#[]⟩ : ByteArray)) ++ (l.Text.extract e.To.toNat (l.Text.size : Int).toNat)), I l.X, I l.Y, I l.Cell])] [] (by kernel_rfl) hB trivial ?_
                    refine ae_then ?_
                    refine aw_ret ?_
                    refine ae_ret hB (.tup [.agg [Sv (((l.Text.extract 0 e.From.toNat) ++ (⟨#[]⟩ : ByteArray)) ++ (l.Text.extract e.To.toNat (l.Text.size : Int).toNat)), I l.X, I l.Y, I l.Cell], I 0]) (by kernel_rfl) (.inl (by first | (have hk : chkI l e insert = 1 := chk_1 (by simp [*]); rw [applyRow_ne hk (by decide), hk]; done) | (have hk : chkI l e insert = 2 := chk_2 (by assumption) (by assumption) (by assumption) (by omega); rw [applyRow_ne hk (by decide), hk]; done) | (have hk : chkI l e insert = 5 := chk_5 (by assumption) (by assumption) (by assumption) (by omega) (by omega); rw [applyRow_ne hk (by decide), hk]; done) | (have hk : chkI l e insert = 0 := chk_0 (by assumption) (by assumption) (by assumption) (by omega) (by omega); rw [applyRow_eq hk, hk]; simp [applyL, applyT, *]; done) | (exfalso; omega))) rfl (fun _ => (by simp [tagged, taggedL]))
                · refine aw_reg [(2, .dec false)] [2, 3, 4, 6, 52] [3, 4, 6] [Sv insert, .ref 3 0, .ref 4 0, .ref 6 0, Bv false] [some (.box [Sv l.Text, I l.X, I l.Y, I l.Cell]), some (.box [I e.Kind, I e.From, I e.To]), some (.box [Sv (⟨#[]⟩ : ByteArray), I 0, I 0, I 0])] [¬ (e.Kind = 1)] (by kernel_rfl) hB ⟨h8, trivial⟩ ?_
                  refine ae_then ?_
                  refine aw_false rfl ?_
                  refine aw_skip ?_
                  refine ae_then ?_
                  refine aw_seq ?_
                  refine aw_seq ?_
                  by_cases h10 : 60 < (((l.Text.size : Int) + (insert.size : Int)) - (e.To - e.From))
                  · refine aw_reg [(12, .dec true)] [2, 3, 4, 6, 65] [3, 4, 6] [Sv insert, .ref 3 0, .ref 4 0, .ref 6 0, Bv true] [some (.box [Sv l.Text, I l.X, I l.Y, I l.Cell]), some (.box [I e.Kind, I e.From, I e.To]), some (.box [Sv (⟨#[]⟩ : ByteArray), I 0, I 0, I 0])] [inR .i64 ((l.Text.size : Int) + (insert.size : Int)), inR .i64 (e.To - e.From), inR .i64 (((l.Text.size : Int) + (insert.size : Int)) - (e.To - e.From)), 60 < (((l.Text.size : Int) + (insert.size : Int)) - (e.To - e.From))] (by kernel_rfl) hB ⟨(inR_i64 (by omega) (by omega)), (inR_i64 (by omega) (by omega)), (inR_i64 (by omega) (by omega)), h10, trivial⟩ ?_
                    refine ae_then ?_
                    refine aw_true rfl ?_
                    refine aw_seq ?_
                    refine aw_reg [] [6, 7] [6] [.ref 6 0, I 5] [some (.box [Sv (⟨#[]⟩ : ByteArray), I 0, I 0, I 0])] [] (by kernel_rfl) hB trivial ?_
                    refine ae_then ?_
                    refine aw_ret ?_
                    refine ae_ret_then ?_
                    refine ae_ret hB (.tup [.agg [Sv (⟨#[]⟩ : ByteArray), I 0, I 0, I 0], I 5]) (by kernel_rfl) (.inl (by first | (have hk : chkI l e insert = 1 := chk_1 (by simp [*]); rw [applyRow_ne hk (by decide), hk]; done) | (have hk : chkI l e insert = 2 := chk_2 (by assumption) (by assumption) (by assumption) (by omega); rw [applyRow_ne hk (by decide), hk]; done) | (have hk : chkI l e insert = 5 := chk_5 (by assumption) (by assumption) (by assumption) (by omega) (by omega); rw [applyRow_ne hk (by decide), hk]; done) | (have hk : chkI l e insert = 0 := chk_0 (by assumption) (by assumption) (by assumption) (by omega) (by omega); rw [applyRow_eq hk, hk]; simp [applyL, applyT, *]; done) | (exfalso; omega))) rfl (fun _ => (by simp [tagged, taggedL]))
                  · refine aw_reg [(12, .dec false)] [2, 3, 4, 6, 65] [3, 4, 6] [Sv insert, .ref 3 0, .ref 4 0, .ref 6 0, Bv false] [some (.box [Sv l.Text, I l.X, I l.Y, I l.Cell]), some (.box [I e.Kind, I e.From, I e.To]), some (.box [Sv (⟨#[]⟩ : ByteArray), I 0, I 0, I 0])] [inR .i64 ((l.Text.size : Int) + (insert.size : Int)), inR .i64 (e.To - e.From), inR .i64 (((l.Text.size : Int) + (insert.size : Int)) - (e.To - e.From)), ¬ (60 < (((l.Text.size : Int) + (insert.size : Int)) - (e.To - e.From)))] (by kernel_rfl) hB ⟨(inR_i64 (by omega) (by omega)), (inR_i64 (by omega) (by omega)), (inR_i64 (by omega) (by omega)), h10, trivial⟩ ?_
                    refine ae_then ?_
                    refine aw_false rfl ?_
                    refine aw_skip ?_
                    refine ae_then ?_
                    refine aw_seq ?_
                    refine aw_reg [] [3, 6] [3, 6] [.ref 3 0, .ref 6 0] [some (.box [Sv (((l.Text.extract 0 e.From.toNat) ++ insert) ++ (l.Text.extract e.To.toNat (l.Text.size : Int).toNat)), I l.X, I l.Y, I l.Cell]), some (.box [Sv (⟨#[]⟩ : ByteArray), I 0, I 0, I 0])] [(0 : Int) ≤ 0 ∧ (0 : Int) ≤ e.From ∧ e.From ≤ (l.Text.size : Int), (l.Text.extract 0 e.From.toNat).size + insert.size ≤ 9223372036854775807, (0 : Int) ≤ e.To ∧ e.To ≤ (l.Text.size : Int) ∧ (l.Text.size : Int) ≤ (l.Text.size : Int), ((l.Text.extract 0 e.From.toNat) ++ insert).size + (l.Text.extract e.To.toNat (l.Text.size : Int).toNat).size ≤ 9223372036854775807] (by kernel_rfl) hB ⟨⟨(by omega), (by omega), (by omega)⟩, (by first | omega | (simp only [ByteArray.size_append, ba_ext, ba_nil]; omega)), ⟨(by omega), (by omega), (by omega)⟩, (by first | omega | (simp only [ByteArray.size_append, ba_ext, ba_nil]; omega)), trivial⟩ ?_
                    refine ae_then ?_
                    refine aw_seq ?_
                    refine aw_reg [] [6, 7] [6] [.ref 6 0, I 0] [some (.box [Sv (((l.Text.extract 0 e.From.toNat) ++ insert) ++ (l.Text.extract e.To.toNat (l.Text.size : Int).toNat)), I l.X, I l.Y, I l.Cell])] [] (by kernel_rfl) hB trivial ?_
                    refine ae_then ?_
                    refine aw_ret ?_
                    refine ae_ret hB (.tup [.agg [Sv (((l.Text.extract 0 e.From.toNat) ++ insert) ++ (l.Text.extract e.To.toNat (l.Text.size : Int).toNat)), I l.X, I l.Y, I l.Cell], I 0]) (by kernel_rfl) (.inl (by first | (have hk : chkI l e insert = 1 := chk_1 (by simp [*]); rw [applyRow_ne hk (by decide), hk]; done) | (have hk : chkI l e insert = 2 := chk_2 (by assumption) (by assumption) (by assumption) (by omega); rw [applyRow_ne hk (by decide), hk]; done) | (have hk : chkI l e insert = 5 := chk_5 (by assumption) (by assumption) (by assumption) (by omega) (by omega); rw [applyRow_ne hk (by decide), hk]; done) | (have hk : chkI l e insert = 0 := chk_0 (by assumption) (by assumption) (by assumption) (by omega) (by omega); rw [applyRow_eq hk, hk]; simp [applyL, applyT, *]; done) | (exfalso; omega))) rfl (fun _ => (by simp [tagged, taggedL]))
              · refine aw_reg [(4, .call [(true, I e.From), (true, I 0), (true, I e.To)] true (Bv true)), (12, .dec false), (17, .dec true), (23, .dec true)] [2, 3, 4, 6, 48] [3, 4, 6] [Sv insert, .ref 3 0, .ref 4 0, .ref 6 0, Bv true] [some (.box [Sv l.Text, I l.X, I l.Y, I l.Cell]), some (.box [I e.Kind, I e.From, I e.To]), some (.box [Sv (⟨#[]⟩ : ByteArray), I 0, I 0, I 0])] [Con Tryd.prog 35 [I e.From, I 0, I e.To] true (Bv true) ∧ ((I e.From : AV) = I e.From) ∧ ((I 0 : AV) = I 0) ∧ ((I e.To : AV) = I e.To) ∧ True, ¬ ((l.Text.size : Int) < e.To), e.Kind = 3, e.From ≠ e.To] (by kernel_rfl) hB ⟨⟨(con_bool h4 (within_ok e.From 0 e.To)), rfl, rfl, rfl, trivial⟩, h5, h6, h7, trivial⟩ ?_
                refine ae_then ?_
                refine aw_true rfl ?_
                refine aw_seq ?_
                refine aw_reg [] [6, 7] [6] [.ref 6 0, I 2] [some (.box [Sv (⟨#[]⟩ : ByteArray), I 0, I 0, I 0])] [] (by kernel_rfl) hB trivial ?_
                refine ae_then ?_
                refine aw_ret ?_
                refine ae_ret_then ?_
                refine ae_ret hB (.tup [.agg [Sv (⟨#[]⟩ : ByteArray), I 0, I 0, I 0], I 2]) (by kernel_rfl) (.inl (by first | (have hk : chkI l e insert = 1 := chk_1 (by simp [*]); rw [applyRow_ne hk (by decide), hk]; done) | (have hk : chkI l e insert = 2 := chk_2 (by assumption) (by assumption) (by assumption) (by omega); rw [applyRow_ne hk (by decide), hk]; done) | (have hk : chkI l e insert = 5 := chk_5 (by assumption) (by assumption) (by assumption) (by omega) (by omega); rw [applyRow_ne hk (by decide), hk]; done) | (have hk : chkI l e insert = 0 := chk_0 (by assumption) (by assumption) (by assumption) (by omega) (by omega); rw [applyRow_eq hk, hk]; simp [applyL, applyT, *]; done) | (exfalso; omega))) rfl (fun _ => (by simp [tagged, taggedL]))
            · refine aw_reg [(4, .call [(true, I e.From), (true, I 0), (true, I e.To)] true (Bv true)), (12, .dec false), (17, .dec false)] [2, 3, 4, 6, 48] [3, 4, 6] [Sv insert, .ref 3 0, .ref 4 0, .ref 6 0, Bv false] [some (.box [Sv l.Text, I l.X, I l.Y, I l.Cell]), some (.box [I e.Kind, I e.From, I e.To]), some (.box [Sv (⟨#[]⟩ : ByteArray), I 0, I 0, I 0])] [Con Tryd.prog 35 [I e.From, I 0, I e.To] true (Bv true) ∧ ((I e.From : AV) = I e.From) ∧ ((I 0 : AV) = I 0) ∧ ((I e.To : AV) = I e.To) ∧ True, ¬ ((l.Text.size : Int) < e.To), ¬ (e.Kind = 3)] (by kernel_rfl) hB ⟨⟨(con_bool h4 (within_ok e.From 0 e.To)), rfl, rfl, rfl, trivial⟩, h5, h6, trivial⟩ ?_
              refine ae_then ?_
              refine aw_false rfl ?_
              refine aw_skip ?_
              refine ae_then ?_
              refine aw_seq ?_
              refine aw_seq ?_
              by_cases h11 : e.Kind = 1
              · refine aw_reg [(2, .dec true)] [2, 3, 4, 6, 52] [3, 4, 6] [Sv insert, .ref 3 0, .ref 4 0, .ref 6 0, Bv true] [some (.box [Sv l.Text, I l.X, I l.Y, I l.Cell]), some (.box [I e.Kind, I e.From, I e.To]), some (.box [Sv (⟨#[]⟩ : ByteArray), I 0, I 0, I 0])] [e.Kind = 1] (by kernel_rfl) hB ⟨h11, trivial⟩ ?_
                refine ae_then ?_
                refine aw_true rfl ?_
                refine aw_reg [] [2, 3, 4, 6] [3, 4, 6] [Sv (⟨#[]⟩ : ByteArray), .ref 3 0, .ref 4 0, .ref 6 0] [some (.box [Sv l.Text, I l.X, I l.Y, I l.Cell]), some (.box [I e.Kind, I e.From, I e.To]), some (.box [Sv (⟨#[]⟩ : ByteArray), I 0, I 0, I 0])] [] (by kernel_rfl) hB trivial ?_
                refine ae_then ?_
                refine aw_seq ?_
                refine aw_seq ?_
                by_cases h12 : 60 < (((l.Text.size : Int) + ((⟨#[]⟩ : ByteArray).size : Int)) - (e.To - e.From))
                · refine aw_reg [(12, .dec true)] [2, 3, 4, 6, 65] [3, 4, 6] [Sv (⟨#[]⟩ : ByteArray), .ref 3 0, .ref 4 0, .ref 6 0, Bv true] [some (.box [Sv l.Text, I l.X, I l.Y, I l.Cell]), some (.box [I e.Kind, I e.From, I e.To]), some (.box [Sv (⟨#[]⟩ : ByteArray), I 0, I 0, I 0])] [inR .i64 ((l.Text.size : Int) + ((⟨#[]⟩ : ByteArray).size : Int)), inR .i64 (e.To - e.From), inR .i64 (((l.Text.size : Int) + ((⟨#[]⟩ : ByteArray).size : Int)) - (e.To - e.From)), 60 < (((l.Text.size : Int) + ((⟨#[]⟩ : ByteArray).size : Int)) - (e.To - e.From))] (by kernel_rfl) hB ⟨(inR_i64 (by omega) (by omega)), (inR_i64 (by omega) (by omega)), (inR_i64 (by omega) (by omega)), h12, trivial⟩ ?_
                  refine ae_then ?_
                  refine aw_true rfl ?_
                  refine aw_seq ?_
                  refine aw_reg [] [6, 7] [6] [.ref 6 0, I 5] [some (.box [Sv (⟨#[]⟩ : ByteArray), I 0, I 0, I 0])] [] (by kernel_rfl) hB trivial ?_
                  refine ae_then ?_
                  refine aw_ret ?_
                  refine ae_ret_then ?_
                  refine ae_ret hB (.tup [.agg [Sv (⟨#[]⟩ : ByteArray), I 0, I 0, I 0], I 5]) (by kernel_rfl) (.inl (by first | (have hk : chkI l e insert = 1 := chk_1 (by simp [*]); rw [applyRow_ne hk (by decide), hk]; done) | (have hk : chkI l e insert = 2 := chk_2 (by assumption) (by assumption) (by assumption) (by omega); rw [applyRow_ne hk (by decide), hk]; done) | (have hk : chkI l e insert = 5 := chk_5 (by assumption) (by assumption) (by assumption) (by omega) (by omega); rw [applyRow_ne hk (by decide), hk]; done) | (have hk : chkI l e insert = 0 := chk_0 (by assumption) (by assumption) (by assumption) (by omega) (by omega); rw [applyRow_eq hk, hk]; simp [applyL, applyT, *]; done) | (exfalso; omega))) rfl (fun _ => (by simp [tagged, taggedL]))
                · refine aw_reg [(12, .dec false)] [2, 3, 4, 6, 65] [3, 4, 6] [Sv (⟨#[]⟩ : ByteArray), .ref 3 0, .ref 4 0, .ref 6 0, Bv false] [some (.box [Sv l.Text, I l.X, I l.Y, I l.Cell]), some (.box [I e.Kind, I e.From, I e.To]), some (.box [Sv (⟨#[]⟩ : ByteArray), I 0, I 0, I 0])] [inR .i64 ((l.Text.size : Int) + ((⟨#[]⟩ : ByteArray).size : Int)), inR .i64 (e.To - e.From), inR .i64 (((l.Text.size : Int) + ((⟨#[]⟩ : ByteArray).size : Int)) - (e.To - e.From)), ¬ (60 < (((l.Text.size : Int) + ((⟨#[]⟩ : ByteArray).size : Int)) - (e.To - e.From)))] (by kernel_rfl) hB ⟨(inR_i64 (by omega) (by omega)), (inR_i64 (by omega) (by omega)), (inR_i64 (by omega) (by omega)), h12, trivial⟩ ?_
                  refine ae_then ?_
                  refine aw_false rfl ?_
                  refine aw_skip ?_
                  refine ae_then ?_
                  refine aw_seq ?_
                  refine aw_reg [] [3, 6] [3, 6] [.ref 3 0, .ref 6 0] [some (.box [Sv (((l.Text.extract 0 e.From.toNat) ++ (⟨#[]⟩ : ByteArray)) ++ (l.Text.extract e.To.toNat (l.Text.size : Int).toNat)), I l.X, I l.Y, I l.Cell]), some (.box [Sv (⟨#[]⟩ : ByteArray), I 0, I 0, I 0])] [(0 : Int) ≤ 0 ∧ (0 : Int) ≤ e.From ∧ e.From ≤ (l.Text.size : Int), (l.Text.extract 0 e.From.toNat).size + (⟨#[]⟩ : ByteArray).size ≤ 9223372036854775807, (0 : Int) ≤ e.To ∧ e.To ≤ (l.Text.size : Int) ∧ (l.Text.size : Int) ≤ (l.Text.size : Int), ((l.Text.extract 0 e.From.toNat) ++ (⟨#[]⟩ : ByteArray)).size + (l.Text.extract e.To.toNat (l.Text.size : Int).toNat).size ≤ 9223372036854775807] (by kernel_rfl) hB ⟨⟨(by omega), (by omega), (by omega)⟩, (by first | omega | (simp only [ByteArray.size_append, ba_ext, ba_nil]; omega)), ⟨(by omega), (by omega), (by omega)⟩, (by first | omega | (simp only [ByteArray.size_append, ba_ext, ba_nil]; omega)), trivial⟩ ?_
                  refine ae_then ?_
                  refine aw_seq ?_
                  refine aw_reg [] [6, 7] [6] [.ref 6 0, I 0] [some (.box [Sv (((l.Text.extract 0 e.From.toNat) ++ (⟨#[]⟩ : ByteArray)) ++ (l.Text.extract e.To.toNat (l.Text.size : Int).toNat)), I l.X, I l.Y, I l.Cell])] [] (by kernel_rfl) hB trivial ?_
                  refine ae_then ?_
                  refine aw_ret ?_
                  refine ae_ret hB (.tup [.agg [Sv (((l.Text.extract 0 e.From.toNat) ++ (⟨#[]⟩ : ByteArray)) ++ (l.Text.extract e.To.toNat (l.Text.size : Int).toNat)), I l.X, I l.Y, I l.Cell], I 0]) (by kernel_rfl) (.inl (by first | (have hk : chkI l e insert = 1 := chk_1 (by simp [*]); rw [applyRow_ne hk (by decide), hk]; done) | (have hk : chkI l e insert = 2 := chk_2 (by assumption) (by assumption) (by assumption) (by omega); rw [applyRow_ne hk (by decide), hk]; done) | (have hk : chkI l e insert = 5 := chk_5 (by assumption) (by assumption) (by assumption) (by omega) (by omega); rw [applyRow_ne hk (by decide), hk]; done) | (have hk : chkI l e insert = 0 := chk_0 (by assumption) (by assumption) (by assumption) (by omega) (by omega); rw [applyRow_eq hk, hk]; simp [applyL, applyT, *]; done) | (exfalso; omega))) rfl (fun _ => (by simp [tagged, taggedL]))
              · refine aw_reg [(2, .dec false)] [2, 3, 4, 6, 52] [3, 4, 6] [Sv insert, .ref 3 0, .ref 4 0, .ref 6 0, Bv false] [some (.box [Sv l.Text, I l.X, I l.Y, I l.Cell]), some (.box [I e.Kind, I e.From, I e.To]), some (.box [Sv (⟨#[]⟩ : ByteArray), I 0, I 0, I 0])] [¬ (e.Kind = 1)] (by kernel_rfl) hB ⟨h11, trivial⟩ ?_
                refine ae_then ?_
                refine aw_false rfl ?_
                refine aw_skip ?_
                refine ae_then ?_
                refine aw_seq ?_
                refine aw_seq ?_
                by_cases h13 : 60 < (((l.Text.size : Int) + (insert.size : Int)) - (e.To - e.From))
                · refine aw_reg [(12, .dec true)] [2, 3, 4, 6, 65] [3, 4, 6] [Sv insert, .ref 3 0, .ref 4 0, .ref 6 0, Bv true] [some (.box [Sv l.Text, I l.X, I l.Y, I l.Cell]), some (.box [I e.Kind, I e.From, I e.To]), some (.box [Sv (⟨#[]⟩ : ByteArray), I 0, I 0, I 0])] [inR .i64 ((l.Text.size : Int) + (insert.size : Int)), inR .i64 (e.To - e.From), inR .i64 (((l.Text.size : Int) + (insert.size : Int)) - (e.To - e.From)), 60 < (((l.Text.size : Int) + (insert.size : Int)) - (e.To - e.From))] (by kernel_rfl) hB ⟨(inR_i64 (by omega) (by omega)), (inR_i64 (by omega) (by omega)), (inR_i64 (by omega) (by omega)), h13, trivial⟩ ?_
                  refine ae_then ?_
                  refine aw_true rfl ?_
                  refine aw_seq ?_
                  refine aw_reg [] [6, 7] [6] [.ref 6 0, I 5] [some (.box [Sv (⟨#[]⟩ : ByteArray), I 0, I 0, I 0])] [] (by kernel_rfl) hB trivial ?_
                  refine ae_then ?_
                  refine aw_ret ?_
                  refine ae_ret_then ?_
                  refine ae_ret hB (.tup [.agg [Sv (⟨#[]⟩ : ByteArray), I 0, I 0, I 0], I 5]) (by kernel_rfl) (.inl (by first | (have hk : chkI l e insert = 1 := chk_1 (by simp [*]); rw [applyRow_ne hk (by decide), hk]; done) | (have hk : chkI l e insert = 2 := chk_2 (by assumption) (by assumption) (by assumption) (by omega); rw [applyRow_ne hk (by decide), hk]; done) | (have hk : chkI l e insert = 5 := chk_5 (by assumption) (by assumption) (by assumption) (by omega) (by omega); rw [applyRow_ne hk (by decide), hk]; done) | (have hk : chkI l e insert = 0 := chk_0 (by assumption) (by assumption) (by assumption) (by omega) (by omega); rw [applyRow_eq hk, hk]; simp [applyL, applyT, *]; done) | (exfalso; omega))) rfl (fun _ => (by simp [tagged, taggedL]))
                · refine aw_reg [(12, .dec false)] [2, 3, 4, 6, 65] [3, 4, 6] [Sv insert, .ref 3 0, .ref 4 0, .ref 6 0, Bv false] [some (.box [Sv l.Text, I l.X, I l.Y, I l.Cell]), some (.box [I e.Kind, I e.From, I e.To]), some (.box [Sv (⟨#[]⟩ : ByteArray), I 0, I 0, I 0])] [inR .i64 ((l.Text.size : Int) + (insert.size : Int)), inR .i64 (e.To - e.From), inR .i64 (((l.Text.size : Int) + (insert.size : Int)) - (e.To - e.From)), ¬ (60 < (((l.Text.size : Int) + (insert.size : Int)) - (e.To - e.From)))] (by kernel_rfl) hB ⟨(inR_i64 (by omega) (by omega)), (inR_i64 (by omega) (by omega)), (inR_i64 (by omega) (by omega)), h13, trivial⟩ ?_
                  refine ae_then ?_
                  refine aw_false rfl ?_
                  refine aw_skip ?_
                  refine ae_then ?_
                  refine aw_seq ?_
                  refine aw_reg [] [3, 6] [3, 6] [.ref 3 0, .ref 6 0] [some (.box [Sv (((l.Text.extract 0 e.From.toNat) ++ insert) ++ (l.Text.extract e.To.toNat (l.Text.size : Int).toNat)), I l.X, I l.Y, I l.Cell]), some (.box [Sv (⟨#[]⟩ : ByteArray), I 0, I 0, I 0])] [(0 : Int) ≤ 0 ∧ (0 : Int) ≤ e.From ∧ e.From ≤ (l.Text.size : Int), (l.Text.extract 0 e.From.toNat).size + insert.size ≤ 9223372036854775807, (0 : Int) ≤ e.To ∧ e.To ≤ (l.Text.size : Int) ∧ (l.Text.size : Int) ≤ (l.Text.size : Int), ((l.Text.extract 0 e.From.toNat) ++ insert).size + (l.Text.extract e.To.toNat (l.Text.size : Int).toNat).size ≤ 9223372036854775807] (by kernel_rfl) hB ⟨⟨(by omega), (by omega), (by omega)⟩, (by first | omega | (simp only [ByteArray.size_append, ba_ext, ba_nil]; omega)), ⟨(by omega), (by omega), (by omega)⟩, (by first | omega | (simp only [ByteArray.size_append, ba_ext, ba_nil]; omega)), trivial⟩ ?_
                  refine ae_then ?_
                  refine aw_seq ?_
                  refine aw_reg [] [6, 7] [6] [.ref 6 0, I 0] [some (.box [Sv (((l.Text.extract 0 e.From.toNat) ++ insert) ++ (l.Text.extract e.To.toNat (l.Text.size : Int).toNat)), I l.X, I l.Y, I l.Cell])] [] (by kernel_rfl) hB trivial ?_
                  refine ae_then ?_
                  refine aw_ret ?_
                  refine ae_ret hB (.tup [.agg [Sv (((l.Text.extract 0 e.From.toNat) ++ insert) ++ (l.Text.extract e.To.toNat (l.Text.size : Int).toNat)), I l.X, I l.Y, I l.Cell], I 0]) (by kernel_rfl) (.inl (by first | (have hk : chkI l e insert = 1 := chk_1 (by simp [*]); rw [applyRow_ne hk (by decide), hk]; done) | (have hk : chkI l e insert = 2 := chk_2 (by assumption) (by assumption) (by assumption) (by omega); rw [applyRow_ne hk (by decide), hk]; done) | (have hk : chkI l e insert = 5 := chk_5 (by assumption) (by assumption) (by assumption) (by omega) (by omega); rw [applyRow_ne hk (by decide), hk]; done) | (have hk : chkI l e insert = 0 := chk_0 (by assumption) (by assumption) (by assumption) (by omega) (by omega); rw [applyRow_eq hk, hk]; simp [applyL, applyT, *]; done) | (exfalso; omega))) rfl (fun _ => (by simp [tagged, taggedL]))
        · have hinh4 := (not_congr inB_iff).1 (Bool.eq_false_iff.1 h4)
          refine aw_reg [(4, .call [(true, I e.From), (true, I 0), (true, I e.To)] true (Bv false))] [2, 3, 4, 6, 48] [3, 4, 6] [Sv insert, .ref 3 0, .ref 4 0, .ref 6 0, Bv true] [some (.box [Sv l.Text, I l.X, I l.Y, I l.Cell]), some (.box [I e.Kind, I e.From, I e.To]), some (.box [Sv (⟨#[]⟩ : ByteArray), I 0, I 0, I 0])] [Con Tryd.prog 35 [I e.From, I 0, I e.To] true (Bv false) ∧ ((I e.From : AV) = I e.From) ∧ ((I 0 : AV) = I 0) ∧ ((I e.To : AV) = I e.To) ∧ True] (by kernel_rfl) hB ⟨⟨(con_bool h4 (within_ok e.From 0 e.To)), rfl, rfl, rfl, trivial⟩, trivial⟩ ?_
          refine ae_then ?_
          refine aw_true rfl ?_
          refine aw_seq ?_
          refine aw_reg [] [6, 7] [6] [.ref 6 0, I 2] [some (.box [Sv (⟨#[]⟩ : ByteArray), I 0, I 0, I 0])] [] (by kernel_rfl) hB trivial ?_
          refine ae_then ?_
          refine aw_ret ?_
          refine ae_ret_then ?_
          refine ae_ret hB (.tup [.agg [Sv (⟨#[]⟩ : ByteArray), I 0, I 0, I 0], I 2]) (by kernel_rfl) (.inl (by first | (have hk : chkI l e insert = 1 := chk_1 (by simp [*]); rw [applyRow_ne hk (by decide), hk]; done) | (have hk : chkI l e insert = 2 := chk_2 (by assumption) (by assumption) (by assumption) (by omega); rw [applyRow_ne hk (by decide), hk]; done) | (have hk : chkI l e insert = 5 := chk_5 (by assumption) (by assumption) (by assumption) (by omega) (by omega); rw [applyRow_ne hk (by decide), hk]; done) | (have hk : chkI l e insert = 0 := chk_0 (by assumption) (by assumption) (by assumption) (by omega) (by omega); rw [applyRow_eq hk, hk]; simp [applyL, applyT, *]; done) | (exfalso; omega))) rfl (fun _ => (by simp [tagged, taggedL]))
      · have hinh3 := (not_congr inB_iff).1 (Bool.eq_false_iff.1 h3)
        refine aw_reg [(1, .call [(true, .agg [Sv l.Text, I l.X, I l.Y, I l.Cell])] true (Bv true)), (5, .call [(true, Sv insert)] true (Bv true)), (11, .call [(true, I e.Kind), (true, I 1), (true, I 3)] true (Bv false))] [2, 3, 4, 6, 21] [3, 4, 6] [Sv insert, .ref 3 0, .ref 4 0, .ref 6 0, Bv true] [some (.box [Sv l.Text, I l.X, I l.Y, I l.Cell]), some (.box [I e.Kind, I e.From, I e.To]), some (.box [Sv (⟨#[]⟩ : ByteArray), I 0, I 0, I 0])] [Con Tryd.prog 12 [.agg [Sv l.Text, I l.X, I l.Y, I l.Cell]] true (Bv true) ∧ ((.agg [Sv l.Text, I l.X, I l.Y, I l.Cell] : AV) = .agg [Sv l.Text, I l.X, I l.Y, I l.Cell]) ∧ True, Con Tryd.prog 33 [Sv insert] true (Bv true) ∧ ((Sv insert : AV) = Sv insert) ∧ True, Con Tryd.prog 35 [I e.Kind, I 1, I 3] true (Bv false) ∧ ((I e.Kind : AV) = I e.Kind) ∧ ((I 1 : AV) = I 1) ∧ ((I 3 : AV) = I 3) ∧ True] (by kernel_rfl) hB ⟨⟨(con_bool h1 (ValidCellRow_ok l okl)), rfl, trivial⟩, ⟨(con_bool h2 (areCells_ok insert (by omega))), rfl, trivial⟩, ⟨(con_bool h3 (within_ok e.Kind 1 3)), rfl, rfl, rfl, trivial⟩, trivial⟩ ?_
        refine ae_then ?_
        refine aw_true rfl ?_
        refine aw_seq ?_
        refine aw_reg [] [6, 7] [6] [.ref 6 0, I 1] [some (.box [Sv (⟨#[]⟩ : ByteArray), I 0, I 0, I 0])] [] (by kernel_rfl) hB trivial ?_
        refine ae_then ?_
        refine aw_ret ?_
        refine ae_ret_then ?_
        refine ae_ret hB (.tup [.agg [Sv (⟨#[]⟩ : ByteArray), I 0, I 0, I 0], I 1]) (by kernel_rfl) (.inl (by first | (have hk : chkI l e insert = 1 := chk_1 (by simp [*]); rw [applyRow_ne hk (by decide), hk]; done) | (have hk : chkI l e insert = 2 := chk_2 (by assumption) (by assumption) (by assumption) (by omega); rw [applyRow_ne hk (by decide), hk]; done) | (have hk : chkI l e insert = 5 := chk_5 (by assumption) (by assumption) (by assumption) (by omega) (by omega); rw [applyRow_ne hk (by decide), hk]; done) | (have hk : chkI l e insert = 0 := chk_0 (by assumption) (by assumption) (by assumption) (by omega) (by omega); rw [applyRow_eq hk, hk]; simp [applyL, applyT, *]; done) | (exfalso; omega))) rfl (fun _ => (by simp [tagged, taggedL]))
    · refine aw_reg [(1, .call [(true, .agg [Sv l.Text, I l.X, I l.Y, I l.Cell])] true (Bv true)), (5, .call [(true, Sv insert)] true (Bv false))] [2, 3, 4, 6, 21] [3, 4, 6] [Sv insert, .ref 3 0, .ref 4 0, .ref 6 0, Bv true] [some (.box [Sv l.Text, I l.X, I l.Y, I l.Cell]), some (.box [I e.Kind, I e.From, I e.To]), some (.box [Sv (⟨#[]⟩ : ByteArray), I 0, I 0, I 0])] [Con Tryd.prog 12 [.agg [Sv l.Text, I l.X, I l.Y, I l.Cell]] true (Bv true) ∧ ((.agg [Sv l.Text, I l.X, I l.Y, I l.Cell] : AV) = .agg [Sv l.Text, I l.X, I l.Y, I l.Cell]) ∧ True, Con Tryd.prog 33 [Sv insert] true (Bv false) ∧ ((Sv insert : AV) = Sv insert) ∧ True] (by kernel_rfl) hB ⟨⟨(con_bool h1 (ValidCellRow_ok l okl)), rfl, trivial⟩, ⟨(con_bool h2 (areCells_ok insert (by omega))), rfl, trivial⟩, trivial⟩ ?_
      refine ae_then ?_
      refine aw_true rfl ?_
      refine aw_seq ?_
      refine aw_reg [] [6, 7] [6] [.ref 6 0, I 1] [some (.box [Sv (⟨#[]⟩ : ByteArray), I 0, I 0, I 0])] [] (by kernel_rfl) hB trivial ?_
      refine ae_then ?_
      refine aw_ret ?_
      refine ae_ret_then ?_
      refine ae_ret hB (.tup [.agg [Sv (⟨#[]⟩ : ByteArray), I 0, I 0, I 0], I 1]) (by kernel_rfl) (.inl (by first | (have hk : chkI l e insert = 1 := chk_1 (by simp [*]); rw [applyRow_ne hk (by decide), hk]; done) | (have hk : chkI l e insert = 2 := chk_2 (by assumption) (by assumption) (by assumption) (by omega); rw [applyRow_ne hk (by decide), hk]; done) | (have hk : chkI l e insert = 5 := chk_5 (by assumption) (by assumption) (by assumption) (by omega) (by omega); rw [applyRow_ne hk (by decide), hk]; done) | (have hk : chkI l e insert = 0 := chk_0 (by assumption) (by assumption) (by assumption) (by omega) (by omega); rw [applyRow_eq hk, hk]; simp [applyL, applyT, *]; done) | (exfalso; omega))) rfl (fun _ => (by simp [tagged, taggedL]))
  · refine aw_reg [(1, .call [(true, .agg [Sv l.Text, I l.X, I l.Y, I l.Cell])] true (Bv false))] [2, 3, 4, 6, 21] [3, 4, 6] [Sv insert, .ref 3 0, .ref 4 0, .ref 6 0, Bv true] [some (.box [Sv l.Text, I l.X, I l.Y, I l.Cell]), some (.box [I e.Kind, I e.From, I e.To]), some (.box [Sv (⟨#[]⟩ : ByteArray), I 0, I 0, I 0])] [Con Tryd.prog 12 [.agg [Sv l.Text, I l.X, I l.Y, I l.Cell]] true (Bv false) ∧ ((.agg [Sv l.Text, I l.X, I l.Y, I l.Cell] : AV) = .agg [Sv l.Text, I l.X, I l.Y, I l.Cell]) ∧ True] (by kernel_rfl) hB ⟨⟨(con_bool h1 (ValidCellRow_ok l okl)), rfl, trivial⟩, trivial⟩ ?_
    refine ae_then ?_
    refine aw_true rfl ?_
    refine aw_seq ?_
    refine aw_reg [] [6, 7] [6] [.ref 6 0, I 1] [some (.box [Sv (⟨#[]⟩ : ByteArray), I 0, I 0, I 0])] [] (by kernel_rfl) hB trivial ?_
    refine ae_then ?_
    refine aw_ret ?_
    refine ae_ret_then ?_
    refine ae_ret hB (.tup [.agg [Sv (⟨#[]⟩ : ByteArray), I 0, I 0, I 0], I 1]) (by kernel_rfl) (.inl (by first | (have hk : chkI l e insert = 1 := chk_1 (by simp [*]); rw [applyRow_ne hk (by decide), hk]; done) | (have hk : chkI l e insert = 2 := chk_2 (by assumption) (by assumption) (by assumption) (by omega); rw [applyRow_ne hk (by decide), hk]; done) | (have hk : chkI l e insert = 5 := chk_5 (by assumption) (by assumption) (by assumption) (by omega) (by omega); rw [applyRow_ne hk (by decide), hk]; done) | (have hk : chkI l e insert = 0 := chk_0 (by assumption) (by assumption) (by assumption) (by omega) (by omega); rw [applyRow_eq hk, hk]; simp [applyL, applyT, *]; done) | (exfalso; omega))) rfl (fun _ => (by simp [tagged, taggedL]))


-- impl.RunGestures
theorem implRunGestures_ok (l : CellRow) (strokes : List Stroke) (insert : ByteArray) (okl : l.Text.size ≤ 9223372036854775807) (oki : insert.size ≤ 1048576) : Con Tryd.prog 30 [.agg [Sv l.Text, I l.X, I l.Y, I l.Cell], slStroke false strokes, Sv insert] true (.tup [.agg [Sv (((runR l strokes insert).1).Text), I (((runR l strokes insert).1).X), I (((runR l strokes insert).1).Y), I (((runR l strokes insert).1).Cell)], I ((runR l strokes insert).2.1), I ((runR l strokes insert).2.2)]) := by
  refine fn_ok (fn := Tryd.f30) (nt := 67) Tryd.func30 rfl rfl rfl rfl (by simp [taggedL, tagged, tagStroke]) fun B hB => ?_
  refine aw_lens (x := slStroke false strokes) 1 rfl (fun len_strokes => ?_)
  simp [LenOK, LenL, cPoint, cStroke, fPoint, fStroke, slPoint, slStroke] at len_strokes
  refine aw_seq ?_
  refine aw_reg [(0, .new 3), (1, .new 6)] [1, 2, 3, 6] [3, 6] [slStroke false strokes, Sv insert, .ref 3 0, .ref 6 0] [some (.box [Sv l.Text, I l.X, I l.Y, I l.Cell]), some (.box [Sv (⟨#[]⟩ : ByteArray), I 0, I 0, I 0])] [] (by kernel_rfl) hB trivial ?_
  refine ae_then ?_
  refine aw_seq ?_
  refine aw_seq ?_
  rcases Bool.eq_false_or_eq_true (okRow l) with h1 | h1
  · rcases Bool.eq_false_or_eq_true (lettersB insert) with h2 | h2
    · refine aw_reg [(1, .call [(true, .agg [Sv l.Text, I l.X, I l.Y, I l.Cell])] true (Bv true)), (5, .call [(true, Sv insert)] true (Bv true))] [1, 2, 3, 6, 24] [3, 6] [slStroke false strokes, Sv insert, .ref 3 0, .ref 6 0, Bv false] [some (.box [Sv l.Text, I l.X, I l.Y, I l.Cell]), some (.box [Sv (⟨#[]⟩ : ByteArray), I 0, I 0, I 0])] [Con Tryd.prog 12 [.agg [Sv l.Text, I l.X, I l.Y, I l.Cell]] true (Bv true) ∧ ((.agg [Sv l.Text, I l.X, I l.Y, I l.Cell] : AV) = .agg [Sv l.Text, I l.X, I l.Y, I l.Cell]) ∧ True, Con Tryd.prog 33 [Sv insert] true (Bv true) ∧ ((Sv insert : AV) = Sv insert) ∧ True] (by kernel_rfl) hB ⟨⟨(con_bool h1 (ValidCellRow_ok l okl)), rfl, trivial⟩, ⟨(con_bool h2 (areCells_ok insert (by omega))), rfl, trivial⟩, trivial⟩ ?_
      refine ae_then ?_
      refine aw_false rfl ?_
      refine aw_skip ?_
      refine ae_then ?_
      refine aw_seq ?_
      refine aw_seq ?_
      refine aw_reg [] [1, 2, 3, 6, 26, 27, 28] [3, 6] [slStroke false strokes, Sv insert, .ref 3 0, .ref 6 0, slStroke false strokes, I (strokes.length : Int), I 0] [some (.box [Sv l.Text, I l.X, I l.Y, I l.Cell]), some (.box [Sv (⟨#[]⟩ : ByteArray), I 0, I 0, I 0])] [] (by kernel_rfl) hB trivial ?_
      refine ae_then ?_
      refine aw_block ?_
      refine aw_loop (fun gn gσ => ∃ (t28 : Int) (b6_0 : ByteArray) (b6_1 : Int) (b6_2 : Int) (b6_3 : Int), gn = ((strokes.length : Int) - t28).toNat ∧ (0 ≤ t28 ∧ t28 ≤ (strokes.length : Int)) ∧ (∀ j : Nat, (j : Int) < t28 → okStroke' (at_ strokes j) = true) ∧ gσ = mkS [(1, slStroke false strokes), (2, Sv insert), (3, .ref 3 0), (6, .ref 6 0), (26, slStroke false strokes), (27, I (strokes.length : Int)), (28, I t28)] [(3, .box [Sv l.Text, I l.X, I l.Y, I l.Cell]), (6, .box [Sv b6_0, I b6_1, I b6_2, I b6_3])]) (((strokes.length : Int) - 0).toNat) ⟨0, (⟨#[]⟩ : ByteArray), 0, 0, 0, rfl, (by omega), (by intro j hj; omega), rfl⟩ (fun gn gσ hI => ?_)
      obtain ⟨t28, b6_0, b6_1, b6_2, b6_3, rfl, hi0, hall0, rfl⟩ := hI
      refine aw_seq ?_
      by_cases h3 : t28 < (strokes.length : Int)
      · have hi : t28.toNat < strokes.length := by omega
        refine aw_reg [(0, .dec true)] [1, 2, 3, 6, 26, 27, 28, 29] [3, 6] [slStroke false strokes, Sv insert, .ref 3 0, .ref 6 0, slStroke false strokes, I (strokes.length : Int), I t28, Bv true] [some (.box [Sv l.Text, I l.X, I l.Y, I l.Cell]), some (.box [Sv b6_0, I b6_1, I b6_2, I b6_3])] [t28 < (strokes.length : Int)] (by kernel_rfl) hB ⟨h3, trivial⟩ ?_
        refine ae_then ?_
        refine aw_seq ?_
        refine aw_true rfl ?_
        refine aw_skip ?_
        refine ae_then ?_
        refine aw_seq ?_
        refine aw_block ?_
        refine aw_seq ?_
        refine aw_reg [(2, .new 10)] [1, 2, 3, 6, 10, 26, 27, 28] [3, 6, 10] [slStroke false strokes, Sv insert, .ref 3 0, .ref 6 0, .ref 10 0, slStroke false strokes, I (strokes.length : Int), I t28] [some (.box [Sv l.Text, I l.X, I l.Y, I l.Cell]), some (.box [Sv b6_0, I b6_1, I b6_2, I b6_3]), some (.box [slPoint false ((at_ strokes t28.toNat).Points)])] [(0 : Int) ≤ t28 ∧ t28 < (strokes.length : Int)] (by kernel_rfl) hB ⟨⟨(by omega), (by omega)⟩, trivial⟩ ?_
        refine ae_then ?_
        refine aw_seq ?_
        rcases Bool.eq_false_or_eq_true (okStroke' (at_ strokes t28.toNat)) with h4 | h4
        · refine aw_reg [(1, .call [(true, .agg [slPoint false ((at_ strokes t28.toNat).Points)])] true (Bv true))] [1, 2, 3, 6, 26, 27, 28, 34] [3, 6] [slStroke false strokes, Sv insert, .ref 3 0, .ref 6 0, slStroke false strokes, I (strokes.length : Int), I t28, Bv false] [some (.box [Sv l.Text, I l.X, I l.Y, I l.Cell]), some (.box [Sv b6_0, I b6_1, I b6_2, I b6_3])] [Con Tryd.prog 44 [.agg [slPoint false ((at_ strokes t28.toNat).Points)]] true (Bv true) ∧ ((.agg [slPoint false ((at_ strokes t28.toNat).Points)] : AV) = .agg [slPoint false ((at_ strokes t28.toNat).Points)]) ∧ True] (by kernel_rfl) hB ⟨⟨(con_bool h4 (ValidStroke_ok (at_ strokes t28.toNat))), rfl, trivial⟩, trivial⟩ ?_
          refine ae_then ?_
          refine aw_false rfl ?_
          refine aw_skip ?_
          refine ae_block 1 ?_
          refine ae_then ?_
          refine aw_reg [] [1, 2, 3, 6, 26, 27, 28] [3, 6] [slStroke false strokes, Sv insert, .ref 3 0, .ref 6 0, slStroke false strokes, I (strokes.length : Int), I (t28 + 1)] [some (.box [Sv l.Text, I l.X, I l.Y, I l.Cell]), some (.box [Sv b6_0, I b6_1, I b6_2, I b6_3])] [inR .i64 (t28 + 1)] (by kernel_rfl) hB ⟨(inR_i64 (by omega) (by omega)), trivial⟩ ?_
          exact ae_again _ (by omega) ⟨(t28 + 1), b6_0, b6_1, b6_2, b6_3, rfl, (by omega), (by intro j hj; by_cases ej : j = t28.toNat; (subst ej; first | assumption | exact hok); exact hall0 j (by omega)), rfl⟩
        · have hall : allN strokes.length (fun j => okStroke' (at_ strokes j)) = false := allN_not hi h4
          refine aw_reg [(1, .call [(true, .agg [slPoint false ((at_ strokes t28.toNat).Points)])] true (Bv false))] [1, 2, 3, 6, 26, 27, 28, 34] [3, 6] [slStroke false strokes, Sv insert, .ref 3 0, .ref 6 0, slStroke false strokes, I (strokes.length : Int), I t28, Bv true] [some (.box [Sv l.Text, I l.X, I l.Y, I l.Cell]), some (.box [Sv b6_0, I b6_1, I b6_2, I b6_3])] [Con Tryd.prog 44 [.agg [slPoint false ((at_ strokes t28.toNat).Points)]] true (Bv false) ∧ ((.agg [slPoint false ((at_ strokes t28.toNat).Points)] : AV) = .agg [slPoint false ((at_ strokes t28.toNat).Points)]) ∧ True] (by kernel_rfl) hB ⟨⟨(con_bool h4 (ValidStroke_ok (at_ strokes t28.toNat))), rfl, trivial⟩, trivial⟩ ?_
          refine ae_then ?_
          refine aw_true rfl ?_
          refine aw_seq ?_
          refine aw_reg [] [6, 7, 8] [6] [.ref 6 0, I 0, I 1] [some (.box [Sv (⟨#[]⟩ : ByteArray), I 0, I 0, I 0])] [] (by kernel_rfl) hB trivial ?_
          refine ae_then ?_
          refine aw_ret ?_
          refine ae_ret_block (ae_ret_then (ae_ret_then (ae_ret_block (ae_ret_then ?_))))
          refine ae_ret hB (.tup [.agg [Sv (⟨#[]⟩ : ByteArray), I 0, I 0, I 0], I 0, I 1]) (by kernel_rfl) (.inl (by first | (rw [runR_yes (by assumption) (by assumption) (by assumption), hg1]; rfl) | (rw [runR_yes (by assumption) (by assumption) (by assumption), hfull]; rfl) | (rw [runR_no (by simp [*])]; done))) rfl (fun _ => (by simp [tagged, taggedL]))
      · have hall : allN strokes.length (fun j => okStroke' (at_ strokes j)) = true := allN_at (fun j hj => hall0 j (by omega))
        refine aw_reg [(0, .dec false)] [1, 2, 3, 6, 26, 27, 28, 29] [3, 6] [slStroke false strokes, Sv insert, .ref 3 0, .ref 6 0, slStroke false strokes, I (strokes.length : Int), I t28, Bv false] [some (.box [Sv l.Text, I l.X, I l.Y, I l.Cell]), some (.box [Sv b6_0, I b6_1, I b6_2, I b6_3])] [¬ (t28 < (strokes.length : Int))] (by kernel_rfl) hB ⟨h3, trivial⟩ ?_
        refine ae_then ?_
        refine aw_seq ?_
        refine aw_false rfl ?_
        refine aw_exit ?_
        refine ae_exit_then ?_
        refine ae_exit_then ?_
        refine ae_exit_same ?_
        refine ae_then ?_
        refine aw_seq ?_
        refine aw_reg [] [1, 2, 3, 6, 11] [3, 6] [slStroke false strokes, Sv insert, .ref 3 0, .ref 6 0, I 0] [some (.box [Sv l.Text, I l.X, I l.Y, I l.Cell]), some (.box [Sv b6_0, I b6_1, I b6_2, I b6_3])] [] (by kernel_rfl) hB trivial ?_
        refine ae_then ?_
        refine aw_seq ?_
        refine aw_seq ?_
        refine aw_reg [] [2, 3, 6, 11, 37, 38, 39] [3, 6] [Sv insert, .ref 3 0, .ref 6 0, I 0, slStroke false strokes, I (strokes.length : Int), I 0] [some (.box [Sv l.Text, I l.X, I l.Y, I l.Cell]), some (.box [Sv b6_0, I b6_1, I b6_2, I b6_3])] [] (by kernel_rfl) hB trivial ?_
        refine ae_then ?_
        refine aw_block ?_
        refine aw_loop (fun gn gσ => ∃ (count : Int) (t39 : Int) (b6_0' : ByteArray) (b6_1' : Int) (b6_2' : Int) (b6_3' : Int) (tx_ : ByteArray) (lx_ : Int) (ly_ : Int) (lc_ : Int), gn = ((strokes.length : Int) - t39).toNat ∧ (0 ≤ t39 ∧ t39 ≤ (strokes.length : Int)) ∧ (runG l strokes insert t39.toNat = some ((CellRow.mk tx_ lx_ ly_ lc_), count)) ∧ (okRow (CellRow.mk tx_ lx_ ly_ lc_) = true) ∧ (0 ≤ count ∧ count ≤ t39) ∧ gσ = mkS [(2, Sv insert), (3, .ref 3 0), (6, .ref 6 0), (11, I count), (37, slStroke false strokes), (38, I (strokes.length : Int)), (39, I t39)] [(3, .box [Sv tx_, I lx_, I ly_, I lc_]), (6, .box [Sv b6_0', I b6_1', I b6_2', I b6_3'])]) (((strokes.length : Int) - 0).toNat) ⟨0, 0, b6_0, b6_1, b6_2, b6_3, l.Text, l.X, l.Y, l.Cell, rfl, (by omega), (by rfl), (by assumption), (by omega), rfl⟩ (fun gn gσ hI => ?_)
        obtain ⟨count, t39, b6_0', b6_1', b6_2', b6_3', tx_, lx_, ly_, lc_, rfl, hj0, hg1, hg2, hg3, rfl⟩ := hI
        refine aw_seq ?_
        by_cases h5 : t39 < (strokes.length : Int)
        · have hi : t39.toNat < strokes.length := by omega
          have hst := allN_get hall (k := t39.toNat) hi
          have hrr := okRow_iff.1 hg2
          have hrs : tx_.size ≤ 9223372036854775807 := by have := hrr.2.1; simp only at this; omega
          have hee := editOf_eq (s := at_ strokes t39.toNat) hg2 hst
          refine aw_reg [(0, .dec true)] [2, 3, 6, 11, 37, 38, 39, 40] [3, 6] [Sv insert, .ref 3 0, .ref 6 0, I count, slStroke false strokes, I (strokes.length : Int), I t39, Bv true] [some (.box [Sv tx_, I lx_, I ly_, I lc_]), some (.box [Sv b6_0', I b6_1', I b6_2', I b6_3'])] [t39 < (strokes.length : Int)] (by kernel_rfl) hB ⟨h5, trivial⟩ ?_
          refine ae_then ?_
          refine aw_seq ?_
          refine aw_true rfl ?_
          refine aw_skip ?_
          refine ae_then ?_
          refine aw_seq ?_
          refine aw_block ?_
          refine aw_seq ?_
          refine aw_reg [(2, .new 13)] [2, 3, 6, 11, 13, 37, 38, 39] [3, 6, 13] [Sv insert, .ref 3 0, .ref 6 0, I count, .ref 13 0, slStroke false strokes, I (strokes.length : Int), I t39] [some (.box [Sv tx_, I lx_, I ly_, I lc_]), some (.box [Sv b6_0', I b6_1', I b6_2', I b6_3']), some (.box [slPoint false ((at_ strokes t39.toNat).Points)])] [(0 : Int) ≤ t39 ∧ t39 < (strokes.length : Int)] (by kernel_rfl) hB ⟨⟨(by omega), (by omega)⟩, trivial⟩ ?_
          refine ae_then ?_
          refine aw_seq ?_
          refine aw_reg [(2, .call [(true, .agg [Sv tx_, I lx_, I ly_, I lc_]), (true, .agg [slPoint false ((at_ strokes t39.toNat).Points)])] true (.tup [.agg [I (((editOfR (CellRow.mk tx_ lx_ ly_ lc_) (at_ strokes t39.toNat)).1).Kind), I (((editOfR (CellRow.mk tx_ lx_ ly_ lc_) (at_ strokes t39.toNat)).1).From), I (((editOfR (CellRow.mk tx_ lx_ ly_ lc_) (at_ strokes t39.toNat)).1).To)], I ((editOfR (CellRow.mk tx_ lx_ ly_ lc_) (at_ strokes t39.toNat)).2)])), (6, .new 14)] [2, 3, 6, 11, 14, 15, 37, 38, 39] [3, 6, 14] [Sv insert, .ref 3 0, .ref 6 0, I count, .ref 14 0, I ((editOfR (CellRow.mk tx_ lx_ ly_ lc_) (at_ strokes t39.toNat)).2), slStroke false strokes, I (strokes.length : Int), I t39] [some (.box [Sv tx_, I lx_, I ly_, I lc_]), some (.box [Sv b6_0', I b6_1', I b6_2', I b6_3']), some (.box [I (((editOfR (CellRow.mk tx_ lx_ ly_ lc_) (at_ strokes t39.toNat)).1).Kind), I (((editOfR (CellRow.mk tx_ lx_ ly_ lc_) (at_ strokes t39.toNat)).1).From), I (((editOfR (CellRow.mk tx_ lx_ ly_ lc_) (at_ strokes t39.toNat)).1).To)])] [Con Tryd.prog 25 [.agg [Sv tx_, I lx_, I ly_, I lc_], .agg [slPoint false ((at_ strokes t39.toNat).Points)]] true (.tup [.agg [I (((editOfR (CellRow.mk tx_ lx_ ly_ lc_) (at_ strokes t39.toNat)).1).Kind), I (((editOfR (CellRow.mk tx_ lx_ ly_ lc_) (at_ strokes t39.toNat)).1).From), I (((editOfR (CellRow.mk tx_ lx_ ly_ lc_) (at_ strokes t39.toNat)).1).To)], I ((editOfR (CellRow.mk tx_ lx_ ly_ lc_) (at_ strokes t39.toNat)).2)]) ∧ ((.agg [Sv tx_, I lx_, I ly_, I lc_] : AV) = .agg [Sv tx_, I lx_, I ly_, I lc_]) ∧ ((.agg [slPoint false ((at_ strokes t39.toNat).Points)] : AV) = .agg [slPoint false ((at_ strokes t39.toNat).Points)]) ∧ True] (by kernel_rfl) hB ⟨⟨(implEditOf_ok (CellRow.mk tx_ lx_ ly_ lc_) (at_ strokes t39.toNat) hrs), rfl, rfl, trivial⟩, trivial⟩ ?_
          refine ae_then ?_
          refine aw_seq ?_
          refine aw_seq ?_
          by_cases h6 : ((editOfR (CellRow.mk tx_ lx_ ly_ lc_) (at_ strokes t39.toNat)).2) = 0
          · refine aw_reg [(1, .dec false)] [2, 3, 6, 11, 14, 37, 38, 39, 50] [3, 6, 14] [Sv insert, .ref 3 0, .ref 6 0, I count, .ref 14 0, slStroke false strokes, I (strokes.length : Int), I t39, Bv false] [some (.box [Sv tx_, I lx_, I ly_, I lc_]), some (.box [Sv b6_0', I b6_1', I b6_2', I b6_3']), some (.box [I (((editOfR (CellRow.mk tx_ lx_ ly_ lc_) (at_ strokes t39.toNat)).1).Kind), I (((editOfR (CellRow.mk tx_ lx_ ly_ lc_) (at_ strokes t39.toNat)).1).From), I (((editOfR (CellRow.mk tx_ lx_ ly_ lc_) (at_ strokes t39.toNat)).1).To)])] [¬ (((editOfR (CellRow.mk tx_ lx_ ly_ lc_) (at_ strokes t39.toNat)).2) ≠ 0)] (by kernel_rfl) hB ⟨(fun hq => hq h6), trivial⟩ ?_
            refine ae_then ?_
            refine aw_false rfl ?_
            refine aw_skip ?_
            refine ae_then ?_
            refine aw_seq ?_
            refine aw_reg [(3, .call [(true, .agg [Sv tx_, I lx_, I ly_, I lc_]), (true, .agg [I (((editOfR (CellRow.mk tx_ lx_ ly_ lc_) (at_ strokes t39.toNat)).1).Kind), I (((editOfR (CellRow.mk tx_ lx_ ly_ lc_) (at_ strokes t39.toNat)).1).From), I (((editOfR (CellRow.mk tx_ lx_ ly_ lc_) (at_ strokes t39.toNat)).1).To)]), (true, Sv insert)] true (.tup [.agg [Sv ((applyRow (CellRow.mk tx_ lx_ ly_ lc_) ((editOfR (CellRow.mk tx_ lx_ ly_ lc_) (at_ strokes t39.toNat)).1) insert).Text), I ((applyRow (CellRow.mk tx_ lx_ ly_ lc_) ((editOfR (CellRow.mk tx_ lx_ ly_ lc_) (at_ strokes t39.toNat)).1) insert).X), I ((applyRow (CellRow.mk tx_ lx_ ly_ lc_) ((editOfR (CellRow.mk tx_ lx_ ly_ lc_) (at_ strokes t39.toNat)).1) insert).Y), I ((applyRow (CellRow.mk tx_ lx_ ly_ lc_) ((editOfR (CellRow.mk tx_ lx_ ly_ lc_) (at_ strokes t39.toNat)).1) insert).Cell)], I (chkI (CellRow.mk tx_ lx_ ly_ lc_) ((editOfR (CellRow.mk tx_ lx_ ly_ lc_) (at_ strokes t39.toNat)).1) insert)])), (7, .new 16)] [2, 3, 6, 11, 15, 16, 37, 38, 39] [3, 6, 16] [Sv insert, .ref 3 0, .ref 6 0, I count, I (chkI (CellRow.mk tx_ lx_ ly_ lc_) ((editOfR (CellRow.mk tx_ lx_ ly_ lc_) (at_ strokes t39.toNat)).1) insert), .ref 16 0, slStroke false strokes, I (strokes.length : Int), I t39] [some (.box [Sv tx_, I lx_, I ly_, I lc_]), some (.box [Sv b6_0', I b6_1', I b6_2', I b6_3']), some (.box [Sv ((applyRow (CellRow.mk tx_ lx_ ly_ lc_) ((editOfR (CellRow.mk tx_ lx_ ly_ lc_) (at_ strokes t39.toNat)).1) insert).Text), I ((applyRow (CellRow.mk tx_ lx_ ly_ lc_) ((editOfR (CellRow.mk tx_ lx_ ly_ lc_) (at_ strokes t39.toNat)).1) insert).X), I ((applyRow (CellRow.mk tx_ lx_ ly_ lc_) ((editOfR (CellRow.mk tx_ lx_ ly_ lc_) (at_ strokes t39.toNat)).1) insert).Y), I ((applyRow (CellRow.mk tx_ lx_ ly_ lc_) ((editOfR (CellRow.mk tx_ lx_ ly_ lc_) (at_ strokes t39.toNat)).1) insert).Cell)])] [Con Tryd.prog 17 [.agg [Sv tx_, I lx_, I ly_, I lc_], .agg [I (((editOfR (CellRow.mk tx_ lx_ ly_ lc_) (at_ strokes t39.toNat)).1).Kind), I (((editOfR (CellRow.mk tx_ lx_ ly_ lc_) (at_ strokes t39.toNat)).1).From), I (((editOfR (CellRow.mk tx_ lx_ ly_ lc_) (at_ strokes t39.toNat)).1).To)], Sv insert] true (.tup [.agg [Sv ((applyRow (CellRow.mk tx_ lx_ ly_ lc_) ((editOfR (CellRow.mk tx_ lx_ ly_ lc_) (at_ strokes t39.toNat)).1) insert).Text), I ((applyRow (CellRow.mk tx_ lx_ ly_ lc_) ((editOfR (CellRow.mk tx_ lx_ ly_ lc_) (at_ strokes t39.toNat)).1) insert).X), I ((applyRow (CellRow.mk tx_ lx_ ly_ lc_) ((editOfR (CellRow.mk tx_ lx_ ly_ lc_) (at_ strokes t39.toNat)).1) insert).Y), I ((applyRow (CellRow.mk tx_ lx_ ly_ lc_) ((editOfR (CellRow.mk tx_ lx_ ly_ lc_) (at_ strokes t39.toNat)).1) insert).Cell)], I (chkI (CellRow.mk tx_ lx_ ly_ lc_) ((editOfR (CellRow.mk tx_ lx_ ly_ lc_) (at_ strokes t39.toNat)).1) insert)]) ∧ ((.agg [Sv tx_, I lx_, I ly_, I lc_] : AV) = .agg [Sv tx_, I lx_, I ly_, I lc_]) ∧ ((.agg [I (((editOfR (CellRow.mk tx_ lx_ ly_ lc_) (at_ strokes t39.toNat)).1).Kind), I (((editOfR (CellRow.mk tx_ lx_ ly_ lc_) (at_ strokes t39.toNat)).1).From), I (((editOfR (CellRow.mk tx_ lx_ ly_ lc_) (at_ strokes t39.toNat)).1).To)] : AV) = .agg [I (((editOfR (CellRow.mk tx_ lx_ ly_ lc_) (at_ strokes t39.toNat)).1).Kind), I (((editOfR (CellRow.mk tx_ lx_ ly_ lc_) (at_ strokes t39.toNat)).1).From), I (((editOfR (CellRow.mk tx_ lx_ ly_ lc_) (at_ strokes t39.toNat)).1).To)]) ∧ ((Sv insert : AV) = Sv insert) ∧ True] (by kernel_rfl) hB ⟨⟨(implApplyEdit_ok (CellRow.mk tx_ lx_ ly_ lc_) ((editOfR (CellRow.mk tx_ lx_ ly_ lc_) (at_ strokes t39.toNat)).1) insert hrs oki), rfl, rfl, rfl, trivial⟩, trivial⟩ ?_
            refine ae_then ?_
            refine aw_seq ?_
            refine aw_seq ?_
            by_cases h7 : (chkI (CellRow.mk tx_ lx_ ly_ lc_) ((editOfR (CellRow.mk tx_ lx_ ly_ lc_) (at_ strokes t39.toNat)).1) insert) = 0
            · have qh7 := h7
              have hstep := runG_step hj0.1 hg1 (by assumption) qh7
              have hokn := applyL_ok qh7
              rw [← applyRow_eq qh7] at hstep hokn
              refine aw_reg [(1, .dec false)] [2, 3, 6, 11, 16, 37, 38, 39, 59] [3, 6, 16] [Sv insert, .ref 3 0, .ref 6 0, I count, .ref 16 0, slStroke false strokes, I (strokes.length : Int), I t39, Bv false] [some (.box [Sv tx_, I lx_, I ly_, I lc_]), some (.box [Sv b6_0', I b6_1', I b6_2', I b6_3']), some (.box [Sv ((applyRow (CellRow.mk tx_ lx_ ly_ lc_) ((editOfR (CellRow.mk tx_ lx_ ly_ lc_) (at_ strokes t39.toNat)).1) insert).Text), I ((applyRow (CellRow.mk tx_ lx_ ly_ lc_) ((editOfR (CellRow.mk tx_ lx_ ly_ lc_) (at_ strokes t39.toNat)).1) insert).X), I ((applyRow (CellRow.mk tx_ lx_ ly_ lc_) ((editOfR (CellRow.mk tx_ lx_ ly_ lc_) (at_ strokes t39.toNat)).1) insert).Y), I ((applyRow (CellRow.mk tx_ lx_ ly_ lc_) ((editOfR (CellRow.mk tx_ lx_ ly_ lc_) (at_ strokes t39.toNat)).1) insert).Cell)])] [¬ ((chkI (CellRow.mk tx_ lx_ ly_ lc_) ((editOfR (CellRow.mk tx_ lx_ ly_ lc_) (at_ strokes t39.toNat)).1) insert) ≠ 0)] (by kernel_rfl) hB ⟨(fun hq => hq h7), trivial⟩ ?_
              refine ae_then ?_
              refine aw_false rfl ?_
              refine aw_skip ?_
              refine ae_then ?_
              refine aw_seq ?_
              refine aw_reg [] [2, 3, 6, 11, 37, 38, 39] [3, 6] [Sv insert, .ref 3 0, .ref 6 0, I count, slStroke false strokes, I (strokes.length : Int), I t39] [some (.box [Sv ((applyRow (CellRow.mk tx_ lx_ ly_ lc_) ((editOfR (CellRow.mk tx_ lx_ ly_ lc_) (at_ strokes t39.toNat)).1) insert).Text), I ((applyRow (CellRow.mk tx_ lx_ ly_ lc_) ((editOfR (CellRow.mk tx_ lx_ ly_ lc_) (at_ strokes t39.toNat)).1) insert).X), I ((applyRow (CellRow.mk tx_ lx_ ly_ lc_) ((editOfR (CellRow.mk tx_ lx_ ly_ lc_) (at_ strokes t39.toNat)).1) insert).Y), I ((applyRow (CellRow.mk tx_ lx_ ly_ lc_) ((editOfR (CellRow.mk tx_ lx_ ly_ lc_) (at_ strokes t39.toNat)).1) insert).Cell)]), some (.box [Sv b6_0', I b6_1', I b6_2', I b6_3'])] [] (by kernel_rfl) hB trivial ?_
              refine ae_then ?_
              refine aw_reg [] [2, 3, 6, 11, 37, 38, 39] [3, 6] [Sv insert, .ref 3 0, .ref 6 0, I (count + 1), slStroke false strokes, I (strokes.length : Int), I t39] [some (.box [Sv ((applyRow (CellRow.mk tx_ lx_ ly_ lc_) ((editOfR (CellRow.mk tx_ lx_ ly_ lc_) (at_ strokes t39.toNat)).1) insert).Text), I ((applyRow (CellRow.mk tx_ lx_ ly_ lc_) ((editOfR (CellRow.mk tx_ lx_ ly_ lc_) (at_ strokes t39.toNat)).1) insert).X), I ((applyRow (CellRow.mk tx_ lx_ ly_ lc_) ((editOfR (CellRow.mk tx_ lx_ ly_ lc_) (at_ strokes t39.toNat)).1) insert).Y), I ((applyRow (CellRow.mk tx_ lx_ ly_ lc_) ((editOfR (CellRow.mk tx_ lx_ ly_ lc_) (at_ strokes t39.toNat)).1) insert).Cell)]), some (.box [Sv b6_0', I b6_1', I b6_2', I b6_3'])] [inR .i64 (count + 1)] (by kernel_rfl) hB ⟨(inR_i64 (by omega) (by omega)), trivial⟩ ?_
              refine ae_block 3 ?_
              refine ae_then ?_
              refine aw_reg [] [2, 3, 6, 11, 37, 38, 39] [3, 6] [Sv insert, .ref 3 0, .ref 6 0, I (count + 1), slStroke false strokes, I (strokes.length : Int), I (t39 + 1)] [some (.box [Sv ((applyRow (CellRow.mk tx_ lx_ ly_ lc_) ((editOfR (CellRow.mk tx_ lx_ ly_ lc_) (at_ strokes t39.toNat)).1) insert).Text), I ((applyRow (CellRow.mk tx_ lx_ ly_ lc_) ((editOfR (CellRow.mk tx_ lx_ ly_ lc_) (at_ strokes t39.toNat)).1) insert).X), I ((applyRow (CellRow.mk tx_ lx_ ly_ lc_) ((editOfR (CellRow.mk tx_ lx_ ly_ lc_) (at_ strokes t39.toNat)).1) insert).Y), I ((applyRow (CellRow.mk tx_ lx_ ly_ lc_) ((editOfR (CellRow.mk tx_ lx_ ly_ lc_) (at_ strokes t39.toNat)).1) insert).Cell)]), some (.box [Sv b6_0', I b6_1', I b6_2', I b6_3'])] [inR .i64 (t39 + 1)] (by kernel_rfl) hB ⟨(inR_i64 (by omega) (by omega)), trivial⟩ ?_
              exact ae_again _ (by omega) ⟨(count + 1), (t39 + 1), b6_0', b6_1', b6_2', b6_3', (applyRow (CellRow.mk tx_ lx_ ly_ lc_) ((editOfR (CellRow.mk tx_ lx_ ly_ lc_) (at_ strokes t39.toNat)).1) insert).Text, (applyRow (CellRow.mk tx_ lx_ ly_ lc_) ((editOfR (CellRow.mk tx_ lx_ ly_ lc_) (at_ strokes t39.toNat)).1) insert).X, (applyRow (CellRow.mk tx_ lx_ ly_ lc_) ((editOfR (CellRow.mk tx_ lx_ ly_ lc_) (at_ strokes t39.toNat)).1) insert).Y, (applyRow (CellRow.mk tx_ lx_ ly_ lc_) ((editOfR (CellRow.mk tx_ lx_ ly_ lc_) (at_ strokes t39.toNat)).1) insert).Cell, rfl, (by omega), (by first | exact runG_skip hj0.1 hg1 (by assumption) | exact hstep), (by first | exact hg2 | exact hokn), (by omega), rfl⟩
            · have qh7 := h7
              have hfull := runG_none (runG_full hj0.1 hg1 (by assumption) qh7) (m := strokes.length) (by omega)
              refine aw_reg [(1, .dec true)] [2, 3, 6, 11, 16, 37, 38, 39, 59] [3, 6, 16] [Sv insert, .ref 3 0, .ref 6 0, I count, .ref 16 0, slStroke false strokes, I (strokes.length : Int), I t39, Bv true] [some (.box [Sv tx_, I lx_, I ly_, I lc_]), some (.box [Sv b6_0', I b6_1', I b6_2', I b6_3']), some (.box [Sv ((applyRow (CellRow.mk tx_ lx_ ly_ lc_) ((editOfR (CellRow.mk tx_ lx_ ly_ lc_) (at_ strokes t39.toNat)).1) insert).Text), I ((applyRow (CellRow.mk tx_ lx_ ly_ lc_) ((editOfR (CellRow.mk tx_ lx_ ly_ lc_) (at_ strokes t39.toNat)).1) insert).X), I ((applyRow (CellRow.mk tx_ lx_ ly_ lc_) ((editOfR (CellRow.mk tx_ lx_ ly_ lc_) (at_ strokes t39.toNat)).1) insert).Y), I ((applyRow (CellRow.mk tx_ lx_ ly_ lc_) ((editOfR (CellRow.mk tx_ lx_ ly_ lc_) (at_ strokes t39.toNat)).1) insert).Cell)])] [(chkI (CellRow.mk tx_ lx_ ly_ lc_) ((editOfR (CellRow.mk tx_ lx_ ly_ lc_) (at_ strokes t39.toNat)).1) insert) ≠ 0] (by kernel_rfl) hB ⟨h7, trivial⟩ ?_
              refine ae_then ?_
              refine aw_true rfl ?_
              refine aw_seq ?_
              refine aw_reg [] [6, 7, 8] [6] [.ref 6 0, I 0, I 5] [some (.box [Sv (⟨#[]⟩ : ByteArray), I 0, I 0, I 0])] [] (by kernel_rfl) hB trivial ?_
              refine ae_then ?_
              refine aw_ret ?_
              refine ae_ret_then (ae_ret_block (ae_ret_then (ae_ret_then (ae_ret_block (ae_ret_then ?_)))))
              refine ae_ret hB (.tup [.agg [Sv (⟨#[]⟩ : ByteArray), I 0, I 0, I 0], I 0, I 5]) (by kernel_rfl) (.inl (by first | (rw [runR_yes (by assumption) (by assumption) (by assumption), hg1]; rfl) | (rw [runR_yes (by assumption) (by assumption) (by assumption), hfull]; rfl) | (rw [runR_no (by simp [*])]; done))) rfl (fun _ => (by simp [tagged, taggedL]))
          · refine aw_reg [(1, .dec true)] [2, 3, 6, 11, 14, 37, 38, 39, 50] [3, 6, 14] [Sv insert, .ref 3 0, .ref 6 0, I count, .ref 14 0, slStroke false strokes, I (strokes.length : Int), I t39, Bv true] [some (.box [Sv tx_, I lx_, I ly_, I lc_]), some (.box [Sv b6_0', I b6_1', I b6_2', I b6_3']), some (.box [I (((editOfR (CellRow.mk tx_ lx_ ly_ lc_) (at_ strokes t39.toNat)).1).Kind), I (((editOfR (CellRow.mk tx_ lx_ ly_ lc_) (at_ strokes t39.toNat)).1).From), I (((editOfR (CellRow.mk tx_ lx_ ly_ lc_) (at_ strokes t39.toNat)).1).To)])] [((editOfR (CellRow.mk tx_ lx_ ly_ lc_) (at_ strokes t39.toNat)).2) ≠ 0] (by kernel_rfl) hB ⟨h6, trivial⟩ ?_
            refine ae_then ?_
            refine aw_true rfl ?_
            refine aw_exit ?_
            refine ae_exit_then ?_
            refine ae_exit_same ?_
            refine ae_then ?_
            refine aw_reg [] [2, 3, 6, 11, 37, 38, 39] [3, 6] [Sv insert, .ref 3 0, .ref 6 0, I count, slStroke false strokes, I (strokes.length : Int), I (t39 + 1)] [some (.box [Sv tx_, I lx_, I ly_, I lc_]), some (.box [Sv b6_0', I b6_1', I b6_2', I b6_3'])] [inR .i64 (t39 + 1)] (by kernel_rfl) hB ⟨(inR_i64 (by omega) (by omega)), trivial⟩ ?_
            exact ae_again _ (by omega) ⟨count, (t39 + 1), b6_0', b6_1', b6_2', b6_3', tx_, lx_, ly_, lc_, rfl, (by omega), (by first | exact runG_skip hj0.1 hg1 (by assumption) | exact hstep), (by first | exact hg2 | exact hokn), (by omega), rfl⟩
        · have hie : t39.toNat = strokes.length := by omega
          rw [hie] at hg1
          refine aw_reg [(0, .dec false)] [2, 3, 6, 11, 37, 38, 39, 40] [3, 6] [Sv insert, .ref 3 0, .ref 6 0, I count, slStroke false strokes, I (strokes.length : Int), I t39, Bv false] [some (.box [Sv tx_, I lx_, I ly_, I lc_]), some (.box [Sv b6_0', I b6_1', I b6_2', I b6_3'])] [¬ (t39 < (strokes.length : Int))] (by kernel_rfl) hB ⟨h5, trivial⟩ ?_
          refine ae_then ?_
          refine aw_seq ?_
          refine aw_false rfl ?_
          refine aw_exit ?_
          refine ae_exit_then ?_
          refine ae_exit_then ?_
          refine ae_exit_same ?_
          refine ae_then ?_
          refine aw_seq ?_
          refine aw_reg [] [6, 7, 8] [6] [.ref 6 0, I count, I 0] [some (.box [Sv tx_, I lx_, I ly_, I lc_])] [] (by kernel_rfl) hB trivial ?_
          refine ae_then ?_
          refine aw_ret ?_
          refine ae_ret hB (.tup [.agg [Sv tx_, I lx_, I ly_, I lc_], I count, I 0]) (by kernel_rfl) (.inl (by first | (rw [runR_yes (by assumption) (by assumption) (by assumption), hg1]; rfl) | (rw [runR_yes (by assumption) (by assumption) (by assumption), hfull]; rfl) | (rw [runR_no (by simp [*])]; done))) rfl (fun _ => (by simp [tagged, taggedL]))
    · refine aw_reg [(1, .call [(true, .agg [Sv l.Text, I l.X, I l.Y, I l.Cell])] true (Bv true)), (5, .call [(true, Sv insert)] true (Bv false))] [1, 2, 3, 6, 24] [3, 6] [slStroke false strokes, Sv insert, .ref 3 0, .ref 6 0, Bv true] [some (.box [Sv l.Text, I l.X, I l.Y, I l.Cell]), some (.box [Sv (⟨#[]⟩ : ByteArray), I 0, I 0, I 0])] [Con Tryd.prog 12 [.agg [Sv l.Text, I l.X, I l.Y, I l.Cell]] true (Bv true) ∧ ((.agg [Sv l.Text, I l.X, I l.Y, I l.Cell] : AV) = .agg [Sv l.Text, I l.X, I l.Y, I l.Cell]) ∧ True, Con Tryd.prog 33 [Sv insert] true (Bv false) ∧ ((Sv insert : AV) = Sv insert) ∧ True] (by kernel_rfl) hB ⟨⟨(con_bool h1 (ValidCellRow_ok l okl)), rfl, trivial⟩, ⟨(con_bool h2 (areCells_ok insert (by omega))), rfl, trivial⟩, trivial⟩ ?_
      refine ae_then ?_
      refine aw_true rfl ?_
      refine aw_seq ?_
      refine aw_reg [] [6, 7, 8] [6] [.ref 6 0, I 0, I 1] [some (.box [Sv (⟨#[]⟩ : ByteArray), I 0, I 0, I 0])] [] (by kernel_rfl) hB trivial ?_
      refine ae_then ?_
      refine aw_ret ?_
      refine ae_ret_then ?_
      refine ae_ret hB (.tup [.agg [Sv (⟨#[]⟩ : ByteArray), I 0, I 0, I 0], I 0, I 1]) (by kernel_rfl) (.inl (by first | (rw [runR_yes (by assumption) (by assumption) (by assumption), hg1]; rfl) | (rw [runR_yes (by assumption) (by assumption) (by assumption), hfull]; rfl) | (rw [runR_no (by simp [*])]; done))) rfl (fun _ => (by simp [tagged, taggedL]))
  · refine aw_reg [(1, .call [(true, .agg [Sv l.Text, I l.X, I l.Y, I l.Cell])] true (Bv false))] [1, 2, 3, 6, 24] [3, 6] [slStroke false strokes, Sv insert, .ref 3 0, .ref 6 0, Bv true] [some (.box [Sv l.Text, I l.X, I l.Y, I l.Cell]), some (.box [Sv (⟨#[]⟩ : ByteArray), I 0, I 0, I 0])] [Con Tryd.prog 12 [.agg [Sv l.Text, I l.X, I l.Y, I l.Cell]] true (Bv false) ∧ ((.agg [Sv l.Text, I l.X, I l.Y, I l.Cell] : AV) = .agg [Sv l.Text, I l.X, I l.Y, I l.Cell]) ∧ True] (by kernel_rfl) hB ⟨⟨(con_bool h1 (ValidCellRow_ok l okl)), rfl, trivial⟩, trivial⟩ ?_
    refine ae_then ?_
    refine aw_true rfl ?_
    refine aw_seq ?_
    refine aw_reg [] [6, 7, 8] [6] [.ref 6 0, I 0, I 1] [some (.box [Sv (⟨#[]⟩ : ByteArray), I 0, I 0, I 0])] [] (by kernel_rfl) hB trivial ?_
    refine ae_then ?_
    refine aw_ret ?_
    refine ae_ret_then ?_
    refine ae_ret hB (.tup [.agg [Sv (⟨#[]⟩ : ByteArray), I 0, I 0, I 0], I 0, I 1]) (by kernel_rfl) (.inl (by first | (rw [runR_yes (by assumption) (by assumption) (by assumption), hg1]; rfl) | (rw [runR_yes (by assumption) (by assumption) (by assumption), hfull]; rfl) | (rw [runR_no (by simp [*])]; done))) rfl (fun _ => (by simp [tagged, taggedL]))


-- laws.eqCellRow
theorem eqCellRow_ok (a : CellRow) (b : CellRow) : Con Tryd.prog 18 [.agg [Sv a.Text, I a.X, I a.Y, I a.Cell], .agg [Sv b.Text, I b.X, I b.Y, I b.Cell]] true (Bv (same a b)) := by
  refine fn_ok (fn := Tryd.f18) (nt := 25) Tryd.func18 rfl rfl rfl rfl (by simp [taggedL, tagged]) fun B hB => ?_
  refine aw_seq ?_
  refine aw_reg [(0, .new 2), (1, .new 3)] [2, 3] [2, 3] [.ref 2 0, .ref 3 0] [some (.box [Sv a.Text, I a.X, I a.Y, I a.Cell]), some (.box [Sv b.Text, I b.X, I b.Y, I b.Cell])] [] (by kernel_rfl) hB trivial ?_
  refine ae_then ?_
  refine aw_seq ?_
  refine aw_seq ?_
  by_cases h1 : a.Text = b.Text
  · refine aw_reg [(4, .dec false)] [2, 3, 9] [2, 3] [.ref 2 0, .ref 3 0, Bv false] [some (.box [Sv a.Text, I a.X, I a.Y, I a.Cell]), some (.box [Sv b.Text, I b.X, I b.Y, I b.Cell])] [¬ (a.Text ≠ b.Text)] (by kernel_rfl) hB ⟨(fun hq => hq h1), trivial⟩ ?_
    refine ae_then ?_
    refine aw_false rfl ?_
    refine aw_skip ?_
    refine ae_then ?_
    refine aw_seq ?_
    refine aw_seq ?_
    by_cases h2 : a.X = b.X
    · refine aw_reg [(4, .dec false)] [2, 3, 14] [2, 3] [.ref 2 0, .ref 3 0, Bv false] [some (.box [Sv a.Text, I a.X, I a.Y, I a.Cell]), some (.box [Sv b.Text, I b.X, I b.Y, I b.Cell])] [¬ (a.X ≠ b.X)] (by kernel_rfl) hB ⟨(fun hq => hq h2), trivial⟩ ?_
      refine ae_then ?_
      refine aw_false rfl ?_
      refine aw_skip ?_
      refine ae_then ?_
      refine aw_seq ?_
      refine aw_seq ?_
      by_cases h3 : a.Y = b.Y
      · refine aw_reg [(4, .dec false)] [2, 3, 19] [2, 3] [.ref 2 0, .ref 3 0, Bv false] [some (.box [Sv a.Text, I a.X, I a.Y, I a.Cell]), some (.box [Sv b.Text, I b.X, I b.Y, I b.Cell])] [¬ (a.Y ≠ b.Y)] (by kernel_rfl) hB ⟨(fun hq => hq h3), trivial⟩ ?_
        refine ae_then ?_
        refine aw_false rfl ?_
        refine aw_skip ?_
        refine ae_then ?_
        refine aw_seq ?_
        refine aw_seq ?_
        by_cases h4 : a.Cell = b.Cell
        · refine aw_reg [(4, .dec false)] [24] [] [Bv false] [] [¬ (a.Cell ≠ b.Cell)] (by kernel_rfl) hB ⟨(fun hq => hq h4), trivial⟩ ?_
          refine ae_then ?_
          refine aw_false rfl ?_
          refine aw_skip ?_
          refine ae_then ?_
          refine aw_seq ?_
          refine aw_reg [] [4] [] [Bv true] [] [] (by kernel_rfl) hB trivial ?_
          refine ae_then ?_
          refine aw_ret ?_
          refine ae_ret hB (Bv true) (by kernel_rfl) (.inl (by first | (cases a; cases b; simp_all [same]; done) | (cases a; cases b; simp_all [same]; omega))) rfl (fun _ => trivial)
        · refine aw_reg [(4, .dec true)] [24] [] [Bv true] [] [a.Cell ≠ b.Cell] (by kernel_rfl) hB ⟨h4, trivial⟩ ?_
          refine ae_then ?_
          refine aw_true rfl ?_
          refine aw_seq ?_
          refine aw_reg [] [4] [] [Bv false] [] [] (by kernel_rfl) hB trivial ?_
          refine ae_then ?_
          refine aw_ret ?_
          refine ae_ret_then ?_
          refine ae_ret hB (Bv false) (by kernel_rfl) (.inl (by first | (cases a; cases b; simp_all [same]; done) | (cases a; cases b; simp_all [same]; omega))) rfl (fun _ => trivial)
      · refine aw_reg [(4, .dec true)] [2, 3, 19] [2, 3] [.ref 2 0, .ref 3 0, Bv true] [some (.box [Sv a.Text, I a.X, I a.Y, I a.Cell]), some (.box [Sv b.Text, I b.X, I b.Y, I b.Cell])] [a.Y ≠ b.Y] (by kernel_rfl) hB ⟨h3, trivial⟩ ?_
        refine ae_then ?_
        refine aw_true rfl ?_
        refine aw_seq ?_
        refine aw_reg [] [4] [] [Bv false] [] [] (by kernel_rfl) hB trivial ?_
        refine ae_then ?_
        refine aw_ret ?_
        refine ae_ret_then ?_
        refine ae_ret hB (Bv false) (by kernel_rfl) (.inl (by first | (cases a; cases b; simp_all [same]; done) | (cases a; cases b; simp_all [same]; omega))) rfl (fun _ => trivial)
    · refine aw_reg [(4, .dec true)] [2, 3, 14] [2, 3] [.ref 2 0, .ref 3 0, Bv true] [some (.box [Sv a.Text, I a.X, I a.Y, I a.Cell]), some (.box [Sv b.Text, I b.X, I b.Y, I b.Cell])] [a.X ≠ b.X] (by kernel_rfl) hB ⟨h2, trivial⟩ ?_
      refine ae_then ?_
      refine aw_true rfl ?_
      refine aw_seq ?_
      refine aw_reg [] [4] [] [Bv false] [] [] (by kernel_rfl) hB trivial ?_
      refine ae_then ?_
      refine aw_ret ?_
      refine ae_ret_then ?_
      refine ae_ret hB (Bv false) (by kernel_rfl) (.inl (by first | (cases a; cases b; simp_all [same]; done) | (cases a; cases b; simp_all [same]; omega))) rfl (fun _ => trivial)
  · refine aw_reg [(4, .dec true)] [2, 3, 9] [2, 3] [.ref 2 0, .ref 3 0, Bv true] [some (.box [Sv a.Text, I a.X, I a.Y, I a.Cell]), some (.box [Sv b.Text, I b.X, I b.Y, I b.Cell])] [a.Text ≠ b.Text] (by kernel_rfl) hB ⟨h1, trivial⟩ ?_
    refine ae_then ?_
    refine aw_true rfl ?_
    refine aw_seq ?_
    refine aw_reg [] [4] [] [Bv false] [] [] (by kernel_rfl) hB trivial ?_
    refine ae_then ?_
    refine aw_ret ?_
    refine ae_ret_then ?_
    refine ae_ret hB (Bv false) (by kernel_rfl) (.inl (by first | (cases a; cases b; simp_all [same]; done) | (cases a; cases b; simp_all [same]; omega))) rfl (fun _ => trivial)


-- laws.eqPoint
theorem eqPoint_ok (a : Point) (b : Point) : Con Tryd.prog 69 [.agg [I a.X, I a.Y, I a.T], .agg [I b.X, I b.Y, I b.T]] true (Bv (same a b)) := by
  refine fn_ok (fn := Tryd.f69) (nt := 20) Tryd.func69 rfl rfl rfl rfl (by simp [taggedL, tagged]) fun B hB => ?_
  refine aw_seq ?_
  refine aw_reg [(0, .new 2), (1, .new 3)] [2, 3] [2, 3] [.ref 2 0, .ref 3 0] [some (.box [I a.X, I a.Y, I a.T]), some (.box [I b.X, I b.Y, I b.T])] [] (by kernel_rfl) hB trivial ?_
  refine ae_then ?_
  refine aw_seq ?_
  refine aw_seq ?_
  by_cases h1 : a.X = b.X
  · refine aw_reg [(4, .dec false)] [2, 3, 9] [2, 3] [.ref 2 0, .ref 3 0, Bv false] [some (.box [I a.X, I a.Y, I a.T]), some (.box [I b.X, I b.Y, I b.T])] [¬ (a.X ≠ b.X)] (by kernel_rfl) hB ⟨(fun hq => hq h1), trivial⟩ ?_
    refine ae_then ?_
    refine aw_false rfl ?_
    refine aw_skip ?_
    refine ae_then ?_
    refine aw_seq ?_
    refine aw_seq ?_
    by_cases h2 : a.Y = b.Y
    · refine aw_reg [(4, .dec false)] [2, 3, 14] [2, 3] [.ref 2 0, .ref 3 0, Bv false] [some (.box [I a.X, I a.Y, I a.T]), some (.box [I b.X, I b.Y, I b.T])] [¬ (a.Y ≠ b.Y)] (by kernel_rfl) hB ⟨(fun hq => hq h2), trivial⟩ ?_
      refine ae_then ?_
      refine aw_false rfl ?_
      refine aw_skip ?_
      refine ae_then ?_
      refine aw_seq ?_
      refine aw_seq ?_
      by_cases h3 : a.T = b.T
      · refine aw_reg [(4, .dec false)] [19] [] [Bv false] [] [¬ (a.T ≠ b.T)] (by kernel_rfl) hB ⟨(fun hq => hq h3), trivial⟩ ?_
        refine ae_then ?_
        refine aw_false rfl ?_
        refine aw_skip ?_
        refine ae_then ?_
        refine aw_seq ?_
        refine aw_reg [] [4] [] [Bv true] [] [] (by kernel_rfl) hB trivial ?_
        refine ae_then ?_
        refine aw_ret ?_
        refine ae_ret hB (Bv true) (by kernel_rfl) (.inl (by first | (cases a; cases b; simp_all [same]; done) | (cases a; cases b; simp_all [same]; omega))) rfl (fun _ => trivial)
      · refine aw_reg [(4, .dec true)] [19] [] [Bv true] [] [a.T ≠ b.T] (by kernel_rfl) hB ⟨h3, trivial⟩ ?_
        refine ae_then ?_
        refine aw_true rfl ?_
        refine aw_seq ?_
        refine aw_reg [] [4] [] [Bv false] [] [] (by kernel_rfl) hB trivial ?_
        refine ae_then ?_
        refine aw_ret ?_
        refine ae_ret_then ?_
        refine ae_ret hB (Bv false) (by kernel_rfl) (.inl (by first | (cases a; cases b; simp_all [same]; done) | (cases a; cases b; simp_all [same]; omega))) rfl (fun _ => trivial)
    · refine aw_reg [(4, .dec true)] [2, 3, 14] [2, 3] [.ref 2 0, .ref 3 0, Bv true] [some (.box [I a.X, I a.Y, I a.T]), some (.box [I b.X, I b.Y, I b.T])] [a.Y ≠ b.Y] (by kernel_rfl) hB ⟨h2, trivial⟩ ?_
      refine ae_then ?_
      refine aw_true rfl ?_
      refine aw_seq ?_
      refine aw_reg [] [4] [] [Bv false] [] [] (by kernel_rfl) hB trivial ?_
      refine ae_then ?_
      refine aw_ret ?_
      refine ae_ret_then ?_
      refine ae_ret hB (Bv false) (by kernel_rfl) (.inl (by first | (cases a; cases b; simp_all [same]; done) | (cases a; cases b; simp_all [same]; omega))) rfl (fun _ => trivial)
  · refine aw_reg [(4, .dec true)] [2, 3, 9] [2, 3] [.ref 2 0, .ref 3 0, Bv true] [some (.box [I a.X, I a.Y, I a.T]), some (.box [I b.X, I b.Y, I b.T])] [a.X ≠ b.X] (by kernel_rfl) hB ⟨h1, trivial⟩ ?_
    refine ae_then ?_
    refine aw_true rfl ?_
    refine aw_seq ?_
    refine aw_reg [] [4] [] [Bv false] [] [] (by kernel_rfl) hB trivial ?_
    refine ae_then ?_
    refine aw_ret ?_
    refine ae_ret_then ?_
    refine ae_ret hB (Bv false) (by kernel_rfl) (.inl (by first | (cases a; cases b; simp_all [same]; done) | (cases a; cases b; simp_all [same]; omega))) rfl (fun _ => trivial)


-- laws.eqPointS
theorem eqPointS_ok (a : List Point) (b : List Point) : Con Tryd.prog 49 [slPoint false a, slPoint false b] true (Bv (same a b)) := by
  refine fn_ok (fn := Tryd.f49) (nt := 27) Tryd.func49 rfl rfl rfl rfl (by simp [taggedL, tagged, tagPoint]) fun B hB => ?_
  refine aw_lens (x := slPoint false a) 0 rfl (fun len_a => ?_)
  simp [LenOK, LenL, cPoint, fPoint, slPoint] at len_a
  refine aw_lens (x := slPoint false b) 1 rfl (fun len_b => ?_)
  simp [LenOK, LenL, cPoint, fPoint, slPoint] at len_b
  refine aw_seq ?_
  refine aw_reg [] [0, 1] [] [slPoint false a, slPoint false b] [] [] (by kernel_rfl) hB trivial ?_
  refine ae_then ?_
  refine aw_seq ?_
  refine aw_seq ?_
  by_cases h1 : (a.length : Int) = (b.length : Int)
  · refine aw_reg [(4, .dec false)] [0, 1, 10] [] [slPoint false a, slPoint false b, Bv false] [] [¬ ((a.length : Int) ≠ (b.length : Int))] (by kernel_rfl) hB ⟨(fun hq => hq h1), trivial⟩ ?_
    refine ae_then ?_
    refine aw_false rfl ?_
    refine aw_skip ?_
    refine ae_then ?_
    refine aw_seq ?_
    refine aw_seq ?_
    refine aw_reg [] [0, 1, 5] [] [slPoint false a, slPoint false b, I 0] [] [] (by kernel_rfl) hB trivial ?_
    refine ae_then ?_
    refine aw_block ?_
    refine aw_loop (fun gn gσ => ∃ (i : Int), gn = ((a.length : Int) - i).toNat ∧ (0 ≤ i ∧ i ≤ (a.length : Int)) ∧ (∀ j : Nat, (j : Int) < i → at_ a j = at_ b j) ∧ gσ = mkS [(0, slPoint false a), (1, slPoint false b), (5, I i)] []) (((a.length : Int) - 0).toNat) ⟨0, rfl, (by omega), (by intro j hj; omega), rfl⟩ (fun gn gσ hI => ?_)
    obtain ⟨i, rfl, hi0, he0, rfl⟩ := hI
    refine aw_seq ?_
    refine aw_seq ?_
    by_cases h2 : i < (a.length : Int)
    · have hi : i.toNat < a.length := by omega
      have hib : i.toNat < b.length := by omega
      refine aw_reg [(3, .dec true)] [0, 1, 5, 14] [] [slPoint false a, slPoint false b, I i, Bv true] [] [i < (a.length : Int)] (by kernel_rfl) hB ⟨h2, trivial⟩ ?_
      refine ae_then ?_
      refine aw_true rfl ?_
      refine aw_skip ?_
      refine ae_then ?_
      refine aw_seq ?_
      refine aw_block ?_
      refine aw_seq ?_
      rcases Bool.eq_false_or_eq_true (same (at_ a i.toNat) (at_ b i.toNat)) with h3 | h3
      · have HEQ := h3
        refine aw_reg [(8, .call [(true, .agg [I ((at_ a i.toNat).X), I ((at_ a i.toNat).Y), I ((at_ a i.toNat).T)]), (true, .agg [I ((at_ b i.toNat).X), I ((at_ b i.toNat).Y), I ((at_ b i.toNat).T)])] true (Bv true))] [0, 1, 5, 26] [] [slPoint false a, slPoint false b, I i, Bv false] [] [(0 : Int) ≤ i ∧ i < (a.length : Int), (0 : Int) ≤ i ∧ i < (b.length : Int), Con Tryd.prog 69 [.agg [I ((at_ a i.toNat).X), I ((at_ a i.toNat).Y), I ((at_ a i.toNat).T)], .agg [I ((at_ b i.toNat).X), I ((at_ b i.toNat).Y), I ((at_ b i.toNat).T)]] true (Bv true) ∧ ((.agg [I ((at_ a i.toNat).X), I ((at_ a i.toNat).Y), I ((at_ a i.toNat).T)] : AV) = .agg [I ((at_ a i.toNat).X), I ((at_ a i.toNat).Y), I ((at_ a i.toNat).T)]) ∧ ((.agg [I ((at_ b i.toNat).X), I ((at_ b i.toNat).Y), I ((at_ b i.toNat).T)] : AV) = .agg [I ((at_ b i.toNat).X), I ((at_ b i.toNat).Y), I ((at_ b i.toNat).T)]) ∧ True] (by kernel_rfl) hB ⟨⟨(by omega), (by omega)⟩, ⟨(by omega), (by omega)⟩, ⟨(con_bool h3 (eqPoint_ok (at_ a i.toNat) (at_ b i.toNat))), rfl, rfl, trivial⟩, trivial⟩ ?_
        refine ae_then ?_
        refine aw_false rfl ?_
        refine aw_skip ?_
        refine ae_block 1 ?_
        refine ae_then ?_
        refine aw_reg [] [0, 1, 5] [] [slPoint false a, slPoint false b, I (i + 1)] [] [inR .i64 (i + 1)] (by kernel_rfl) hB ⟨(inR_i64 (by omega) (by omega)), trivial⟩ ?_
        exact ae_again _ (by omega) ⟨(i + 1), rfl, (by omega), (by intro j hj; by_cases ej : j = i.toNat; (subst ej; simpa [same] using HEQ); exact he0 j (by omega)), rfl⟩
      · refine aw_reg [(8, .call [(true, .agg [I ((at_ a i.toNat).X), I ((at_ a i.toNat).Y), I ((at_ a i.toNat).T)]), (true, .agg [I ((at_ b i.toNat).X), I ((at_ b i.toNat).Y), I ((at_ b i.toNat).T)])] true (Bv false))] [0, 1, 5, 26] [] [slPoint false a, slPoint false b, I i, Bv true] [] [(0 : Int) ≤ i ∧ i < (a.length : Int), (0 : Int) ≤ i ∧ i < (b.length : Int), Con Tryd.prog 69 [.agg [I ((at_ a i.toNat).X), I ((at_ a i.toNat).Y), I ((at_ a i.toNat).T)], .agg [I ((at_ b i.toNat).X), I ((at_ b i.toNat).Y), I ((at_ b i.toNat).T)]] true (Bv false) ∧ ((.agg [I ((at_ a i.toNat).X), I ((at_ a i.toNat).Y), I ((at_ a i.toNat).T)] : AV) = .agg [I ((at_ a i.toNat).X), I ((at_ a i.toNat).Y), I ((at_ a i.toNat).T)]) ∧ ((.agg [I ((at_ b i.toNat).X), I ((at_ b i.toNat).Y), I ((at_ b i.toNat).T)] : AV) = .agg [I ((at_ b i.toNat).X), I ((at_ b i.toNat).Y), I ((at_ b i.toNat).T)]) ∧ True] (by kernel_rfl) hB ⟨⟨(by omega), (by omega)⟩, ⟨(by omega), (by omega)⟩, ⟨(con_bool h3 (eqPoint_ok (at_ a i.toNat) (at_ b i.toNat))), rfl, rfl, trivial⟩, trivial⟩ ?_
        refine ae_then ?_
        refine aw_true rfl ?_
        refine aw_seq ?_
        refine aw_reg [] [4] [] [Bv false] [] [] (by kernel_rfl) hB trivial ?_
        refine ae_then ?_
        refine aw_ret ?_
        refine ae_ret_block (ae_ret_then (ae_ret_then (ae_ret_block (ae_ret_then ?_))))
        refine ae_ret hB (Bv false) (by kernel_rfl) (.inl (by first | (refine congrArg Bv (Eq.symm (decide_eq_false ?_)); intro e; subst e; simp_all [same]; done) | (exact congrArg Bv (Eq.symm (decide_eq_true hfin))))) rfl (fun _ => trivial)
    · have hfin : a = b := ext_at (by omega) (fun j hj => he0 j (by omega))
      refine aw_reg [(3, .dec false)] [0, 1, 5, 14] [] [slPoint false a, slPoint false b, I i, Bv false] [] [¬ (i < (a.length : Int))] (by kernel_rfl) hB ⟨h2, trivial⟩ ?_
      refine ae_then ?_
      refine aw_false rfl ?_
      refine aw_exit ?_
      refine ae_exit_then ?_
      refine ae_exit_then ?_
      refine ae_exit_same ?_
      refine ae_then ?_
      refine aw_seq ?_
      refine aw_reg [] [4] [] [Bv true] [] [] (by kernel_rfl) hB trivial ?_
      refine ae_then ?_
      refine aw_ret ?_
      refine ae_ret hB (Bv true) (by kernel_rfl) (.inl (by first | (refine congrArg Bv (Eq.symm (decide_eq_false ?_)); intro e; subst e; simp_all [same]; done) | (exact congrArg Bv (Eq.symm (decide_eq_true hfin))))) rfl (fun _ => trivial)
  · refine aw_reg [(4, .dec true)] [0, 1, 10] [] [slPoint false a, slPoint false b, Bv true] [] [(a.length : Int) ≠ (b.length : Int)] (by kernel_rfl) hB ⟨h1, trivial⟩ ?_
    refine ae_then ?_
    refine aw_true rfl ?_
    refine aw_seq ?_
    refine aw_reg [] [4] [] [Bv false] [] [] (by kernel_rfl) hB trivial ?_
    refine ae_then ?_
    refine aw_ret ?_
    refine ae_ret_then ?_
    refine ae_ret hB (Bv false) (by kernel_rfl) (.inl (by first | (refine congrArg Bv (Eq.symm (decide_eq_false ?_)); intro e; subst e; simp_all [same]; done) | (exact congrArg Bv (Eq.symm (decide_eq_true hfin))))) rfl (fun _ => trivial)


-- laws.eqStroke
theorem eqStroke_ok (a : Stroke) (b : Stroke) : Con Tryd.prog 26 [.agg [slPoint false a.Points], .agg [slPoint false b.Points]] true (Bv (same a b)) := by
  refine fn_ok (fn := Tryd.f26) (nt := 11) Tryd.func26 rfl rfl rfl rfl (by simp [taggedL, tagged, tagPoint]) fun B hB => ?_
  refine aw_lens (x := .agg [slPoint false a.Points]) 0 rfl (fun len_a => ?_)
  simp [LenOK, LenL, cPoint, fPoint, slPoint] at len_a
  refine aw_lens (x := .agg [slPoint false b.Points]) 1 rfl (fun len_b => ?_)
  simp [LenOK, LenL, cPoint, fPoint, slPoint] at len_b
  refine aw_seq ?_
  refine aw_reg [(0, .new 2), (1, .new 3)] [2, 3] [2, 3] [.ref 2 0, .ref 3 0] [some (.box [slPoint false a.Points]), some (.box [slPoint false b.Points])] [] (by kernel_rfl) hB trivial ?_
  refine ae_then ?_
  refine aw_seq ?_
  refine aw_seq ?_
  rcases Bool.eq_false_or_eq_true (same a.Points b.Points) with h1 | h1
  · refine aw_reg [(4, .call [(true, slPoint false a.Points), (true, slPoint false b.Points)] true (Bv true))] [10] [] [Bv false] [] [Con Tryd.prog 49 [slPoint false a.Points, slPoint false b.Points] true (Bv true) ∧ ((slPoint false a.Points : AV) = slPoint false a.Points) ∧ ((slPoint false b.Points : AV) = slPoint false b.Points) ∧ True] (by kernel_rfl) hB ⟨⟨(con_bool h1 (eqPointS_ok a.Points b.Points)), rfl, rfl, trivial⟩, trivial⟩ ?_
    refine ae_then ?_
    refine aw_false rfl ?_
    refine aw_skip ?_
    refine ae_then ?_
    refine aw_seq ?_
    refine aw_reg [] [4] [] [Bv true] [] [] (by kernel_rfl) hB trivial ?_
    refine ae_then ?_
    refine aw_ret ?_
    refine ae_ret hB (Bv true) (by kernel_rfl) (.inl (by first | (cases a; cases b; simp_all [same]; done) | (cases a; cases b; simp_all [same]; omega))) rfl (fun _ => trivial)
  · refine aw_reg [(4, .call [(true, slPoint false a.Points), (true, slPoint false b.Points)] true (Bv false))] [10] [] [Bv true] [] [Con Tryd.prog 49 [slPoint false a.Points, slPoint false b.Points] true (Bv false) ∧ ((slPoint false a.Points : AV) = slPoint false a.Points) ∧ ((slPoint false b.Points : AV) = slPoint false b.Points) ∧ True] (by kernel_rfl) hB ⟨⟨(con_bool h1 (eqPointS_ok a.Points b.Points)), rfl, rfl, trivial⟩, trivial⟩ ?_
    refine ae_then ?_
    refine aw_true rfl ?_
    refine aw_seq ?_
    refine aw_reg [] [4] [] [Bv false] [] [] (by kernel_rfl) hB trivial ?_
    refine ae_then ?_
    refine aw_ret ?_
    refine ae_ret_then ?_
    refine ae_ret hB (Bv false) (by kernel_rfl) (.inl (by first | (cases a; cases b; simp_all [same]; done) | (cases a; cases b; simp_all [same]; omega))) rfl (fun _ => trivial)


-- laws.eqStrokeS
theorem eqStrokeS_ok (a : List Stroke) (b : List Stroke) : Con Tryd.prog 31 [slStroke false a, slStroke false b] true (Bv (same a b)) := by
  refine fn_ok (fn := Tryd.f31) (nt := 27) Tryd.func31 rfl rfl rfl rfl (by simp [taggedL, tagged, tagStroke]) fun B hB => ?_
  refine aw_lens (x := slStroke false a) 0 rfl (fun len_a => ?_)
  simp [LenOK, LenL, cPoint, cStroke, fPoint, fStroke, slPoint, slStroke] at len_a
  refine aw_lens (x := slStroke false b) 1 rfl (fun len_b => ?_)
  simp [LenOK, LenL, cPoint, cStroke, fPoint, fStroke, slPoint, slStroke] at len_b
  refine aw_seq ?_
  refine aw_reg [] [0, 1] [] [slStroke false a, slStroke false b] [] [] (by kernel_rfl) hB trivial ?_
  refine ae_then ?_
  refine aw_seq ?_
  refine aw_seq ?_
  by_cases h1 : (a.length : Int) = (b.length : Int)
  · refine aw_reg [(4, .dec false)] [0, 1, 10] [] [slStroke false a, slStroke false b, Bv false] [] [¬ ((a.length : Int) ≠ (b.length : Int))] (by kernel_rfl) hB ⟨(fun hq => hq h1), trivial⟩ ?_
    refine ae_then ?_
    refine aw_false rfl ?_
    refine aw_skip ?_
    refine ae_then ?_
    refine aw_seq ?_
    refine aw_seq ?_
    refine aw_reg [] [0, 1, 5] [] [slStroke false a, slStroke false b, I 0] [] [] (by kernel_rfl) hB trivial ?_
    refine ae_then ?_
    refine aw_block ?_
    refine aw_loop (fun gn gσ => ∃ (i : Int), gn = ((a.length : Int) - i).toNat ∧ (0 ≤ i ∧ i ≤ (a.length : Int)) ∧ (∀ j : Nat, (j : Int) < i → at_ a j = at_ b j) ∧ gσ = mkS [(0, slStroke false a), (1, slStroke false b), (5, I i)] []) (((a.length : Int) - 0).toNat) ⟨0, rfl, (by omega), (by intro j hj; omega), rfl⟩ (fun gn gσ hI => ?_)
    obtain ⟨i, rfl, hi0, he0, rfl⟩ := hI
    refine aw_seq ?_
    refine aw_seq ?_
    by_cases h2 : i < (a.length : Int)
    · have hi : i.toNat < a.length := by omega
      have hib : i.toNat < b.length := by omega
      refine aw_reg [(3, .dec true)] [0, 1, 5, 14] [] [slStroke false a, slStroke false b, I i, Bv true] [] [i < (a.length : Int)] (by kernel_rfl) hB ⟨h2, trivial⟩ ?_
      refine ae_then ?_
      refine aw_true rfl ?_
      refine aw_skip ?_
      refine ae_then ?_
      refine aw_seq ?_
      refine aw_block ?_
      refine aw_seq ?_
      rcases Bool.eq_false_or_eq_true (same (at_ a i.toNat) (at_ b i.toNat)) with h3 | h3
      · have HEQ := h3
        refine aw_reg [(8, .call [(true, .agg [slPoint false ((at_ a i.toNat).Points)]), (true, .agg [slPoint false ((at_ b i.toNat).Points)])] true (Bv true))] [0, 1, 5, 26] [] [slStroke false a, slStroke false b, I i, Bv false] [] [(0 : Int) ≤ i ∧ i < (a.length : Int), (0 : Int) ≤ i ∧ i < (b.length : Int), Con Tryd.prog 26 [.agg [slPoint false ((at_ a i.toNat).Points)], .agg [slPoint false ((at_ b i.toNat).Points)]] true (Bv true) ∧ ((.agg [slPoint false ((at_ a i.toNat).Points)] : AV) = .agg [slPoint false ((at_ a i.toNat).Points)]) ∧ ((.agg [slPoint false ((at_ b i.toNat).Points)] : AV) = .agg [slPoint false ((at_ b i.toNat).Points)]) ∧ True] (by kernel_rfl) hB ⟨⟨(by omega), (by omega)⟩, ⟨(by omega), (by omega)⟩, ⟨(con_bool h3 (eqStroke_ok (at_ a i.toNat) (at_ b i.toNat))), rfl, rfl, trivial⟩, trivial⟩ ?_
        refine ae_then ?_
        refine aw_false rfl ?_
        refine aw_skip ?_
        refine ae_block 1 ?_
        refine ae_then ?_
        refine aw_reg [] [0, 1, 5] [] [slStroke false a, slStroke false b, I (i + 1)] [] [inR .i64 (i + 1)] (by kernel_rfl) hB ⟨(inR_i64 (by omega) (by omega)), trivial⟩ ?_
        exact ae_again _ (by omega) ⟨(i + 1), rfl, (by omega), (by intro j hj; by_cases ej : j = i.toNat; (subst ej; simpa [same] using HEQ); exact he0 j (by omega)), rfl⟩
      · refine aw_reg [(8, .call [(true, .agg [slPoint false ((at_ a i.toNat).Points)]), (true, .agg [slPoint false ((at_ b i.toNat).Points)])] true (Bv false))] [0, 1, 5, 26] [] [slStroke false a, slStroke false b, I i, Bv true] [] [(0 : Int) ≤ i ∧ i < (a.length : Int), (0 : Int) ≤ i ∧ i < (b.length : Int), Con Tryd.prog 26 [.agg [slPoint false ((at_ a i.toNat).Points)], .agg [slPoint false ((at_ b i.toNat).Points)]] true (Bv false) ∧ ((.agg [slPoint false ((at_ a i.toNat).Points)] : AV) = .agg [slPoint false ((at_ a i.toNat).Points)]) ∧ ((.agg [slPoint false ((at_ b i.toNat).Points)] : AV) = .agg [slPoint false ((at_ b i.toNat).Points)]) ∧ True] (by kernel_rfl) hB ⟨⟨(by omega), (by omega)⟩, ⟨(by omega), (by omega)⟩, ⟨(con_bool h3 (eqStroke_ok (at_ a i.toNat) (at_ b i.toNat))), rfl, rfl, trivial⟩, trivial⟩ ?_
        refine ae_then ?_
        refine aw_true rfl ?_
        refine aw_seq ?_
        refine aw_reg [] [4] [] [Bv false] [] [] (by kernel_rfl) hB trivial ?_
        refine ae_then ?_
        refine aw_ret ?_
        refine ae_ret_block (ae_ret_then (ae_ret_then (ae_ret_block (ae_ret_then ?_))))
        refine ae_ret hB (Bv false) (by kernel_rfl) (.inl (by first | (refine congrArg Bv (Eq.symm (decide_eq_false ?_)); intro e; subst e; simp_all [same]; done) | (exact congrArg Bv (Eq.symm (decide_eq_true hfin))))) rfl (fun _ => trivial)
    · have hfin : a = b := ext_at (by omega) (fun j hj => he0 j (by omega))
      refine aw_reg [(3, .dec false)] [0, 1, 5, 14] [] [slStroke false a, slStroke false b, I i, Bv false] [] [¬ (i < (a.length : Int))] (by kernel_rfl) hB ⟨h2, trivial⟩ ?_
      refine ae_then ?_
      refine aw_false rfl ?_
      refine aw_exit ?_
      refine ae_exit_then ?_
      refine ae_exit_then ?_
      refine ae_exit_same ?_
      refine ae_then ?_
      refine aw_seq ?_
      refine aw_reg [] [4] [] [Bv true] [] [] (by kernel_rfl) hB trivial ?_
      refine ae_then ?_
      refine aw_ret ?_
      refine ae_ret hB (Bv true) (by kernel_rfl) (.inl (by first | (refine congrArg Bv (Eq.symm (decide_eq_false ?_)); intro e; subst e; simp_all [same]; done) | (exact congrArg Bv (Eq.symm (decide_eq_true hfin))))) rfl (fun _ => trivial)
  · refine aw_reg [(4, .dec true)] [0, 1, 10] [] [slStroke false a, slStroke false b, Bv true] [] [(a.length : Int) ≠ (b.length : Int)] (by kernel_rfl) hB ⟨h1, trivial⟩ ?_
    refine ae_then ?_
    refine aw_true rfl ?_
    refine aw_seq ?_
    refine aw_reg [] [4] [] [Bv false] [] [] (by kernel_rfl) hB trivial ?_
    refine ae_then ?_
    refine aw_ret ?_
    refine ae_ret_then ?_
    refine ae_ret hB (Bv false) (by kernel_rfl) (.inl (by first | (refine congrArg Bv (Eq.symm (decide_eq_false ?_)); intro e; subst e; simp_all [same]; done) | (exact congrArg Bv (Eq.symm (decide_eq_true hfin))))) rfl (fun _ => trivial)


theorem same_self {α : Type} [DecidableEq α] (x : α) : same x x = true := by simp [same]

-- laws.FnExactRunGestures
theorem fnExactRunGestures_con (aL : CellRow) (aStrokes : List Stroke) (aInsert : ByteArray) (ok_aL : okCellRow aL) (ok_aInsert : aInsert.size ≤ 9223372036854775807) : Con Tryd.prog 8 [.agg [Sv aL.Text, I aL.X, I aL.Y, I aL.Cell], slStroke false aStrokes, Sv aInsert] true (Bv true) := by
  refine fn_ok (fn := Tryd.f8) (nt := 68) Tryd.func8 rfl rfl rfl rfl (by simp [taggedL, tagged, tagStroke]) fun B hB => ?_
  refine aw_lens (x := slStroke false aStrokes) 1 rfl (fun len_aStrokes => ?_)
  simp [LenOK, LenL, cPoint, cStroke, fPoint, fStroke, slPoint, slStroke] at len_aStrokes
  refine aw_seq ?_
  refine aw_reg [(0, .new 3)] [1, 2, 3] [3] [slStroke false aStrokes, Sv aInsert, .ref 3 0] [some (.box [Sv aL.Text, I aL.X, I aL.Y, I aL.Cell])] [] (by kernel_rfl) hB trivial ?_
  refine ae_then ?_
  refine aw_seq ?_
  refine aw_seq ?_
  by_cases h1 : 1048576 < (aInsert.size : Int)
  · refine aw_reg [(2, .dec true)] [1, 2, 3, 17] [3] [slStroke false aStrokes, Sv aInsert, .ref 3 0, Bv true] [some (.box [Sv aL.Text, I aL.X, I aL.Y, I aL.Cell])] [1048576 < (aInsert.size : Int)] (by kernel_rfl) hB ⟨h1, trivial⟩ ?_
    refine ae_then ?_
    refine aw_true rfl ?_
    refine aw_seq ?_
    refine aw_reg [] [6] [] [Bv true] [] [] (by kernel_rfl) hB trivial ?_
    refine ae_then ?_
    refine aw_ret ?_
    refine ae_ret_then ?_
    refine ae_ret hB (Bv true) (by kernel_rfl) (.inl rfl) rfl (fun _ => trivial)
  · refine aw_reg [(2, .dec false)] [1, 2, 3, 17] [3] [slStroke false aStrokes, Sv aInsert, .ref 3 0, Bv false] [some (.box [Sv aL.Text, I aL.X, I aL.Y, I aL.Cell])] [¬ (1048576 < (aInsert.size : Int))] (by kernel_rfl) hB ⟨h1, trivial⟩ ?_
    refine ae_then ?_
    refine aw_false rfl ?_
    refine aw_skip ?_
    refine ae_then ?_
    refine aw_seq ?_
    refine aw_reg [] [1, 2, 3, 7] [3] [slStroke false aStrokes, Sv aInsert, .ref 3 0, I 1048576] [some (.box [Sv aL.Text, I aL.X, I aL.Y, I aL.Cell])] [] (by kernel_rfl) hB trivial ?_
    refine ae_then ?_
    refine aw_seq ?_
    refine aw_reg [(2, .call [(true, .agg [Sv aL.Text, I aL.X, I aL.Y, I aL.Cell]), (true, I 1048576)] true (I (szTake 1048576 (bulkCellRow aL))))] [1, 2, 3, 7] [3] [slStroke false aStrokes, Sv aInsert, .ref 3 0, I (szTake 1048576 (bulkCellRow aL))] [some (.box [Sv aL.Text, I aL.X, I aL.Y, I aL.Cell])] [Con Tryd.prog 9 [.agg [Sv aL.Text, I aL.X, I aL.Y, I aL.Cell], I 1048576] true (I (szTake 1048576 (bulkCellRow aL))) ∧ ((.agg [Sv aL.Text, I aL.X, I aL.Y, I aL.Cell] : AV) = .agg [Sv aL.Text, I aL.X, I aL.Y, I aL.Cell]) ∧ ((I 1048576 : AV) = I 1048576) ∧ True] (by kernel_rfl) hB ⟨⟨(szCellRow_ok aL 1048576 (by omega) ok_aL), rfl, rfl, trivial⟩, trivial⟩ ?_
    refine ae_then ?_
    refine aw_seq ?_
    refine aw_seq ?_
    by_cases h2 : (szTake 1048576 (bulkCellRow aL)) < 0
    · refine aw_reg [(1, .dec true)] [1, 2, 3, 7, 22] [3] [slStroke false aStrokes, Sv aInsert, .ref 3 0, I (szTake 1048576 (bulkCellRow aL)), Bv true] [some (.box [Sv aL.Text, I aL.X, I aL.Y, I aL.Cell])] [(szTake 1048576 (bulkCellRow aL)) < 0] (by kernel_rfl) hB ⟨h2, trivial⟩ ?_
      refine ae_then ?_
      refine aw_true rfl ?_
      refine aw_seq ?_
      refine aw_reg [] [6] [] [Bv true] [] [] (by kernel_rfl) hB trivial ?_
      refine ae_then ?_
      refine aw_ret ?_
      refine ae_ret_then ?_
      refine ae_ret hB (Bv true) (by kernel_rfl) (.inl rfl) rfl (fun _ => trivial)
    · have eh2 := szTake_nn h2
      refine aw_reg [(1, .dec false)] [1, 2, 3, 7, 22] [3] [slStroke false aStrokes, Sv aInsert, .ref 3 0, I (szTake 1048576 (bulkCellRow aL)), Bv false] [some (.box [Sv aL.Text, I aL.X, I aL.Y, I aL.Cell])] [¬ ((szTake 1048576 (bulkCellRow aL)) < 0)] (by kernel_rfl) hB ⟨h2, trivial⟩ ?_
      refine ae_then ?_
      refine aw_false rfl ?_
      refine aw_skip ?_
      refine ae_then ?_
      refine aw_seq ?_
      refine aw_reg [(2, .call [(true, slStroke false aStrokes), (true, I (szTake 1048576 (bulkCellRow aL)))] true (I (szTake (szTake 1048576 (bulkCellRow aL)) (bulkStrokeS aStrokes))))] [1, 2, 3, 7] [3] [slStroke false aStrokes, Sv aInsert, .ref 3 0, I (szTake (szTake 1048576 (bulkCellRow aL)) (bulkStrokeS aStrokes))] [some (.box [Sv aL.Text, I aL.X, I aL.Y, I aL.Cell])] [Con Tryd.prog 27 [slStroke false aStrokes, I (szTake 1048576 (bulkCellRow aL))] true (I (szTake (szTake 1048576 (bulkCellRow aL)) (bulkStrokeS aStrokes))) ∧ ((slStroke false aStrokes : AV) = slStroke false aStrokes) ∧ ((I (szTake 1048576 (bulkCellRow aL)) : AV) = I (szTake 1048576 (bulkCellRow aL))) ∧ True] (by kernel_rfl) hB ⟨⟨(szStrokeS_ok aStrokes (szTake 1048576 (bulkCellRow aL)) (by omega)), rfl, rfl, trivial⟩, trivial⟩ ?_
      refine ae_then ?_
      refine aw_seq ?_
      refine aw_seq ?_
      by_cases h3 : (szTake (szTake 1048576 (bulkCellRow aL)) (bulkStrokeS aStrokes)) < 0
      · refine aw_reg [(1, .dec true)] [1, 2, 3, 27] [3] [slStroke false aStrokes, Sv aInsert, .ref 3 0, Bv true] [some (.box [Sv aL.Text, I aL.X, I aL.Y, I aL.Cell])] [(szTake (szTake 1048576 (bulkCellRow aL)) (bulkStrokeS aStrokes)) < 0] (by kernel_rfl) hB ⟨h3, trivial⟩ ?_
        refine ae_then ?_
        refine aw_true rfl ?_
        refine aw_seq ?_
        refine aw_reg [] [6] [] [Bv true] [] [] (by kernel_rfl) hB trivial ?_
        refine ae_then ?_
        refine aw_ret ?_
        refine ae_ret_then ?_
        refine ae_ret hB (Bv true) (by kernel_rfl) (.inl rfl) rfl (fun _ => trivial)
      · have eh3 := szTake_nn h3
        refine aw_reg [(1, .dec false)] [1, 2, 3, 27] [3] [slStroke false aStrokes, Sv aInsert, .ref 3 0, Bv false] [some (.box [Sv aL.Text, I aL.X, I aL.Y, I aL.Cell])] [¬ ((szTake (szTake 1048576 (bulkCellRow aL)) (bulkStrokeS aStrokes)) < 0)] (by kernel_rfl) hB ⟨h3, trivial⟩ ?_
        refine ae_then ?_
        refine aw_false rfl ?_
        refine aw_skip ?_
        refine ae_then ?_
        refine aw_seq ?_
        refine aw_reg [(1, .call [(true, .agg [Sv aL.Text, I aL.X, I aL.Y, I aL.Cell])] true (.agg [Sv aL.Text, I aL.X, I aL.Y, I aL.Cell])), (3, .call [(true, slStroke false aStrokes)] true (slStroke true aStrokes)), (5, .call [(true, .agg [Sv aL.Text, I aL.X, I aL.Y, I aL.Cell]), (false, slStroke false aStrokes), (true, Sv aInsert)] true (.tup [.agg [Sv (((runR aL aStrokes aInsert).1).Text), I (((runR aL aStrokes aInsert).1).X), I (((runR aL aStrokes aInsert).1).Y), I (((runR aL aStrokes aInsert).1).Cell)], I ((runR aL aStrokes aInsert).2.1), I ((runR aL aStrokes aInsert).2.2)])), (10, .new 8)] [1, 2, 3, 8, 9, 10] [3, 8] [slStroke false aStrokes, Sv aInsert, .ref 3 0, .ref 8 0, I ((runR aL aStrokes aInsert).2.1), I ((runR aL aStrokes aInsert).2.2)] [some (.box [Sv aL.Text, I aL.X, I aL.Y, I aL.Cell]), some (.box [Sv (((runR aL aStrokes aInsert).1).Text), I (((runR aL aStrokes aInsert).1).X), I (((runR aL aStrokes aInsert).1).Y), I (((runR aL aStrokes aInsert).1).Cell)])] [Con Tryd.prog 11 [.agg [Sv aL.Text, I aL.X, I aL.Y, I aL.Cell]] true (.agg [Sv aL.Text, I aL.X, I aL.Y, I aL.Cell]) ∧ ((.agg [Sv aL.Text, I aL.X, I aL.Y, I aL.Cell] : AV) = .agg [Sv aL.Text, I aL.X, I aL.Y, I aL.Cell]) ∧ True, Con Tryd.prog 29 [slStroke false aStrokes] true (slStroke true aStrokes) ∧ ((slStroke false aStrokes : AV) = slStroke false aStrokes) ∧ True, Con Tryd.prog 28 [.agg [Sv aL.Text, I aL.X, I aL.Y, I aL.Cell], slStroke false aStrokes, Sv aInsert] true (.tup [.agg [Sv (((runR aL aStrokes aInsert).1).Text), I (((runR aL aStrokes aInsert).1).X), I (((runR aL aStrokes aInsert).1).Y), I (((runR aL aStrokes aInsert).1).Cell)], I ((runR aL aStrokes aInsert).2.1), I ((runR aL aStrokes aInsert).2.2)]) ∧ ((.agg [Sv aL.Text, I aL.X, I aL.Y, I aL.Cell] : AV) = .agg [Sv aL.Text, I aL.X, I aL.Y, I aL.Cell]) ∧ ((false = true → true = true) ∧ 1 = 1 ∧ aStrokes.length = aStrokes.length ∧ ∀ i, i < aStrokes.length → (fStroke true aStrokes) i = (fStroke false aStrokes) i ∨ (AV.idsL ((fStroke false aStrokes) i) = [] ∧ leL (fun _ => none) false ((fStroke true aStrokes) i) ((fStroke false aStrokes) i))) ∧ ((Sv aInsert : AV) = Sv aInsert) ∧ True] (by kernel_rfl) hB ⟨⟨(toCellRow_ok aL (by omega)), rfl, trivial⟩, ⟨(toStrokeS_ok aStrokes (by omega)), rfl, trivial⟩, ⟨(specRunGestures_ok aL aStrokes aInsert ok_aL (by omega)), rfl, ⟨(fun h => by cases h), rfl, rfl, fun i _ => .inr ⟨idsStroke _ _, leStroke _ _ _⟩⟩, rfl, trivial⟩, trivial⟩ ?_
        refine ae_then ?_
        refine aw_seq ?_
        refine aw_reg [(1, .call [(true, slStroke false aStrokes)] true (slStroke true aStrokes))] [1, 2, 3, 8, 9, 10, 11] [3, 8] [slStroke false aStrokes, Sv aInsert, .ref 3 0, .ref 8 0, I ((runR aL aStrokes aInsert).2.1), I ((runR aL aStrokes aInsert).2.2), slStroke true aStrokes] [some (.box [Sv aL.Text, I aL.X, I aL.Y, I aL.Cell]), some (.box [Sv (((runR aL aStrokes aInsert).1).Text), I (((runR aL aStrokes aInsert).1).X), I (((runR aL aStrokes aInsert).1).Y), I (((runR aL aStrokes aInsert).1).Cell)])] [Con Tryd.prog 29 [slStroke false aStrokes] true (slStroke true aStrokes) ∧ ((slStroke false aStrokes : AV) = slStroke false aStrokes) ∧ True] (by kernel_rfl) hB ⟨⟨(toStrokeS_ok aStrokes (by omega)), rfl, trivial⟩, trivial⟩ ?_
        refine ae_then ?_
        refine aw_seq ?_
        refine aw_reg [(1, .call [(true, .agg [Sv aL.Text, I aL.X, I aL.Y, I aL.Cell])] true (.agg [Sv aL.Text, I aL.X, I aL.Y, I aL.Cell])), (4, .call [(true, .agg [Sv aL.Text, I aL.X, I aL.Y, I aL.Cell]), (false, slStroke false aStrokes), (true, Sv aInsert)] true (.tup [.agg [Sv (((runR aL aStrokes aInsert).1).Text), I (((runR aL aStrokes aInsert).1).X), I (((runR aL aStrokes aInsert).1).Y), I (((runR aL aStrokes aInsert).1).Cell)], I ((runR aL aStrokes aInsert).2.1), I ((runR aL aStrokes aInsert).2.2)])), (9, .new 12)] [1, 8, 9, 10, 11, 12, 13, 14] [8, 12] [slStroke false aStrokes, .ref 8 0, I ((runR aL aStrokes aInsert).2.1), I ((runR aL aStrokes aInsert).2.2), slStroke true aStrokes, .ref 12 0, I ((runR aL aStrokes aInsert).2.1), I ((runR aL aStrokes aInsert).2.2)] [some (.box [Sv (((runR aL aStrokes aInsert).1).Text), I (((runR aL aStrokes aInsert).1).X), I (((runR aL aStrokes aInsert).1).Y), I (((runR aL aStrokes aInsert).1).Cell)]), some (.box [Sv (((runR aL aStrokes aInsert).1).Text), I (((runR aL aStrokes aInsert).1).X), I (((runR aL aStrokes aInsert).1).Y), I (((runR aL aStrokes aInsert).1).Cell)])] [Con Tryd.prog 11 [.agg [Sv aL.Text, I aL.X, I aL.Y, I aL.Cell]] true (.agg [Sv aL.Text, I aL.X, I aL.Y, I aL.Cell]) ∧ ((.agg [Sv aL.Text, I aL.X, I aL.Y, I aL.Cell] : AV) = .agg [Sv aL.Text, I aL.X, I aL.Y, I aL.Cell]) ∧ True, Con Tryd.prog 30 [.agg [Sv aL.Text, I aL.X, I aL.Y, I aL.Cell], slStroke false aStrokes, Sv aInsert] true (.tup [.agg [Sv (((runR aL aStrokes aInsert).1).Text), I (((runR aL aStrokes aInsert).1).X), I (((runR aL aStrokes aInsert).1).Y), I (((runR aL aStrokes aInsert).1).Cell)], I ((runR aL aStrokes aInsert).2.1), I ((runR aL aStrokes aInsert).2.2)]) ∧ ((.agg [Sv aL.Text, I aL.X, I aL.Y, I aL.Cell] : AV) = .agg [Sv aL.Text, I aL.X, I aL.Y, I aL.Cell]) ∧ ((false = true → true = true) ∧ 1 = 1 ∧ aStrokes.length = aStrokes.length ∧ ∀ i, i < aStrokes.length → (fStroke true aStrokes) i = (fStroke false aStrokes) i ∨ (AV.idsL ((fStroke false aStrokes) i) = [] ∧ leL (fun _ => none) false ((fStroke true aStrokes) i) ((fStroke false aStrokes) i))) ∧ ((Sv aInsert : AV) = Sv aInsert) ∧ True] (by kernel_rfl) hB ⟨⟨(toCellRow_ok aL (by omega)), rfl, trivial⟩, ⟨(implRunGestures_ok aL aStrokes aInsert ok_aL (by omega)), rfl, ⟨(fun h => by cases h), rfl, rfl, fun i _ => .inr ⟨idsStroke _ _, leStroke _ _ _⟩⟩, rfl, trivial⟩, trivial⟩ ?_
        refine ae_then ?_
        refine aw_seq ?_
        refine aw_seq ?_
        refine aw_reg [(2, .call [(true, .agg [Sv (((runR aL aStrokes aInsert).1).Text), I (((runR aL aStrokes aInsert).1).X), I (((runR aL aStrokes aInsert).1).Y), I (((runR aL aStrokes aInsert).1).Cell)]), (true, .agg [Sv (((runR aL aStrokes aInsert).1).Text), I (((runR aL aStrokes aInsert).1).X), I (((runR aL aStrokes aInsert).1).Y), I (((runR aL aStrokes aInsert).1).Cell)])] true (Bv true)), (7, .dec false), (12, .dec false)] [1, 11, 62] [] [slStroke false aStrokes, slStroke true aStrokes, Bv false] [] [Con Tryd.prog 18 [.agg [Sv (((runR aL aStrokes aInsert).1).Text), I (((runR aL aStrokes aInsert).1).X), I (((runR aL aStrokes aInsert).1).Y), I (((runR aL aStrokes aInsert).1).Cell)], .agg [Sv (((runR aL aStrokes aInsert).1).Text), I (((runR aL aStrokes aInsert).1).X), I (((runR aL aStrokes aInsert).1).Y), I (((runR aL aStrokes aInsert).1).Cell)]] true (Bv true) ∧ ((.agg [Sv (((runR aL aStrokes aInsert).1).Text), I (((runR aL aStrokes aInsert).1).X), I (((runR aL aStrokes aInsert).1).Y), I (((runR aL aStrokes aInsert).1).Cell)] : AV) = .agg [Sv (((runR aL aStrokes aInsert).1).Text), I (((runR aL aStrokes aInsert).1).X), I (((runR aL aStrokes aInsert).1).Y), I (((runR aL aStrokes aInsert).1).Cell)]) ∧ ((.agg [Sv (((runR aL aStrokes aInsert).1).Text), I (((runR aL aStrokes aInsert).1).X), I (((runR aL aStrokes aInsert).1).Y), I (((runR aL aStrokes aInsert).1).Cell)] : AV) = .agg [Sv (((runR aL aStrokes aInsert).1).Text), I (((runR aL aStrokes aInsert).1).X), I (((runR aL aStrokes aInsert).1).Y), I (((runR aL aStrokes aInsert).1).Cell)]) ∧ True, ¬ (((runR aL aStrokes aInsert).2.1) ≠ ((runR aL aStrokes aInsert).2.1)), ¬ (((runR aL aStrokes aInsert).2.2) ≠ ((runR aL aStrokes aInsert).2.2))] (by kernel_rfl) hB ⟨⟨(con_bool (same_self _) (eqCellRow_ok ((runR aL aStrokes aInsert).1) ((runR aL aStrokes aInsert).1))), rfl, rfl, trivial⟩, (fun hq => hq rfl), (fun hq => hq rfl), trivial⟩ ?_
        refine ae_then ?_
        refine aw_false rfl ?_
        refine aw_skip ?_
        refine ae_then ?_
        refine aw_seq ?_
        refine aw_seq ?_
        refine aw_reg [(2, .call [(true, slStroke false aStrokes)] true (slStroke true aStrokes)), (3, .call [(false, slStroke false aStrokes), (false, slStroke false aStrokes)] true (Bv true))] [67] [] [Bv false] [] [Con Tryd.prog 29 [slStroke false aStrokes] true (slStroke true aStrokes) ∧ ((slStroke false aStrokes : AV) = slStroke false aStrokes) ∧ True, Con Tryd.prog 31 [slStroke false aStrokes, slStroke false aStrokes] true (Bv true) ∧ ((false = true → true = true) ∧ 1 = 1 ∧ aStrokes.length = aStrokes.length ∧ ∀ i, i < aStrokes.length → (fStroke true aStrokes) i = (fStroke false aStrokes) i ∨ (AV.idsL ((fStroke false aStrokes) i) = [] ∧ leL (fun _ => none) false ((fStroke true aStrokes) i) ((fStroke false aStrokes) i))) ∧ ((false = true → true = true) ∧ 1 = 1 ∧ aStrokes.length = aStrokes.length ∧ ∀ i, i < aStrokes.length → (fStroke true aStrokes) i = (fStroke false aStrokes) i ∨ (AV.idsL ((fStroke false aStrokes) i) = [] ∧ leL (fun _ => none) false ((fStroke true aStrokes) i) ((fStroke false aStrokes) i))) ∧ True] (by kernel_rfl) hB ⟨⟨(toStrokeS_ok aStrokes (by omega)), rfl, trivial⟩, ⟨(con_bool (same_self _) (eqStrokeS_ok aStrokes aStrokes)), ⟨(fun h => by cases h), rfl, rfl, fun i _ => .inr ⟨idsStroke _ _, leStroke _ _ _⟩⟩, ⟨(fun h => by cases h), rfl, rfl, fun i _ => .inr ⟨idsStroke _ _, leStroke _ _ _⟩⟩, trivial⟩, trivial⟩ ?_
        refine ae_then ?_
        refine aw_false rfl ?_
        refine aw_skip ?_
        refine ae_then ?_
        refine aw_seq ?_
        refine aw_reg [] [6] [] [Bv true] [] [] (by kernel_rfl) hB trivial ?_
        refine ae_then ?_
        refine aw_ret ?_
        refine ae_ret hB (Bv true) (by kernel_rfl) (.inl rfl) rfl (fun _ => trivial)


/-! ### the row -/

def okOCellRow (x : CellRow) : Prop := (x.Text.size ≤ 9223372036854775807) ∧ (inR .i64 x.X) ∧ (inR .i64 x.Y) ∧ (inR .i64 x.Cell)

theorem opens_t23 : OpensA Tryd.prog 23 (cCellRow) okOCellRow := by
  intro H enc w base spare held fuel cs y h
  obtain ⟨ys, n, _, _, hlen, hyl, hf⟩ := DataW.trod_struct Tryd.underlying23 h
  obtain ⟨x0, r0, o0⟩ := (opensA_str Tryd.underlying9) enc w base spare held _ _ _ ((hf 0 _ rfl).trans (List.getElem?_eq_getElem (by rw [hyl]; decide)))
  obtain ⟨x1, r1, o1⟩ := (opensA_int Tryd.underlying2) enc w base spare held _ _ _ ((hf 1 _ rfl).trans (List.getElem?_eq_getElem (by rw [hyl]; decide)))
  obtain ⟨x2, r2, o2⟩ := (opensA_int Tryd.underlying2) enc w base spare held _ _ _ ((hf 2 _ rfl).trans (List.getElem?_eq_getElem (by rw [hyl]; decide)))
  obtain ⟨x3, r3, o3⟩ := (opensA_int Tryd.underlying2) enc w base spare held _ _ _ ((hf 3 _ rfl).trans (List.getElem?_eq_getElem (by rw [hyl]; decide)))
  have hlen : cs.length = 4 := hlen.trans (by kernel_rfl)
  exact ⟨⟨x0, x1, x2, x3⟩, RelTL.whole (n := 4) (RelTL.app (a := 3) (b := 1) (RelTL.app (a := 2) (b := 1) (RelTL.app (a := 1) (b := 1) r0 (by kernel_rfl) r1 (by kernel_rfl) (by kernel_rfl) (by omega)) rfl r2 (by kernel_rfl) (by kernel_rfl) (by omega)) rfl r3 (by kernel_rfl) (by kernel_rfl) (by omega)) hlen rfl, o0, o1, o2, o3⟩

def okOPoint (x : Point) : Prop := (inR .i64 x.X) ∧ (inR .i64 x.Y) ∧ (inR .i64 x.T)

theorem opens_t94 : OpensA Tryd.prog 94 (cPoint) okOPoint := by
  intro H enc w base spare held fuel cs y h
  obtain ⟨ys, n, _, _, hlen, hyl, hf⟩ := DataW.trod_struct Tryd.underlying94 h
  obtain ⟨x0, r0, o0⟩ := (opensA_int Tryd.underlying2) enc w base spare held _ _ _ ((hf 0 _ rfl).trans (List.getElem?_eq_getElem (by rw [hyl]; decide)))
  obtain ⟨x1, r1, o1⟩ := (opensA_int Tryd.underlying2) enc w base spare held _ _ _ ((hf 1 _ rfl).trans (List.getElem?_eq_getElem (by rw [hyl]; decide)))
  obtain ⟨x2, r2, o2⟩ := (opensA_int Tryd.underlying2) enc w base spare held _ _ _ ((hf 2 _ rfl).trans (List.getElem?_eq_getElem (by rw [hyl]; decide)))
  have hlen : cs.length = 3 := hlen.trans (by kernel_rfl)
  exact ⟨⟨x0, x1, x2⟩, RelTL.whole (n := 3) (RelTL.app (a := 2) (b := 1) (RelTL.app (a := 1) (b := 1) r0 (by kernel_rfl) r1 (by kernel_rfl) (by kernel_rfl) (by omega)) rfl r2 (by kernel_rfl) (by kernel_rfl) (by omega)) hlen rfl, o0, o1, o2⟩

theorem opens_t43 : OpensA Tryd.prog 43 (cLPoint false) (fun xs => ∀ y ∈ xs, okOPoint y) :=
  opensA_slice (c := cPoint) (sz := 3) Tryd.underlying43 (by kernel_rfl) (by decide) (fun x => ⟨rfl, by simp [oneA, cI, cPoint]⟩) (opens_t94)

def okOStroke (x : Stroke) : Prop := (∀ y ∈ x.Points, okOPoint y)

theorem opens_t45 : OpensA Tryd.prog 45 (cStroke false) okOStroke := by
  intro H enc w base spare held fuel cs y h
  obtain ⟨ys, n, _, _, hlen, hyl, hf⟩ := DataW.trod_struct Tryd.underlying45 h
  obtain ⟨x0, r0, o0⟩ := (opens_t43) enc w base spare held _ _ _ ((hf 0 _ rfl).trans (List.getElem?_eq_getElem (by rw [hyl]; decide)))
  have hlen : cs.length = 1 := hlen.trans (by kernel_rfl)
  exact ⟨⟨x0⟩, RelTL.whole (n := 1) (show RelTL w _ _ ((cs.drop 0).take 1) from (by have e : Tryd.prog.cellsOf 43 = 1 := (by kernel_rfl); rw [← e]; exact r0)) hlen rfl, o0⟩

theorem opens_t55 : OpensA Tryd.prog 55 (cLStroke false) (fun xs => ∀ y ∈ xs, okOStroke y) :=
  opensA_slice (c := (cStroke false)) (sz := 1) Tryd.underlying55 (by kernel_rfl) (by decide) (fun x => ⟨rfl, by simp [oneA, cLPoint, cStroke, slPoint]⟩) (opens_t45)

namespace fnExactRunGestures
set_option maxRecDepth 100000 in
theorem lifted (os : Os) (started : os.Started) (H : Type) (enc : TypeId × Value → H) :
    ReturnsInHanded {} Tryd.checked os 8 .any (fun w args => (Rows.fnExactRunGesturesSpec.pre enc Tryd.prog Tryd.f8 Rows.fnExactRunGesturesRow.domain false w args ∧ laidMetH Tryd.prog Rows.fnExactRunGesturesRow.laid w) ∧ sizedMet enc Tryd.prog Tryd.f8 (OpenSpec.ofChange Rows.fnExactRunGesturesSpec) false w args)
      (Rows.fnExactRunGesturesSpec.post enc Tryd.prog Tryd.f8 false true false false) := by
  refine returnsInHanded_of_change_and (C := Tryd.checked) (X := fun w _ => laidMetH Tryd.prog Rows.fnExactRunGesturesRow.laid w) (fun _ _ _ hh h => h.of_heap hh) Tryd.own started (by kernel_rfl) Tryd.func8
    (ChangeSpec.witness_shaped (enc := enc) (C := Tryd.checked) (os := os) (X := fun w _ => laidMetH Tryd.prog Rows.fnExactRunGesturesRow.laid w) false (World.laidAll Tryd.prog os Rows.fnExactRunGesturesRow.laid) #[.agg #[.string ⟨#[]⟩, .int .i64 0, .int .i64 0, .int .i64 0], .slice none 0 0, .string ⟨#[]⟩] 8 (World.laidAll_os _ _ _)
      (World.shaped_of_ZipB (by kernel_rfl) (by kernel_rfl)) (by kernel_rfl) (by kernel_rfl) (by kernel_rfl)
      (by rw [MakeChecks.laidMetH_plain _ _ _ (by kernel_rfl)]; exact laidMet_laidAll _ (by kernel_rfl) (by kernel_rfl))) ?_
  intro W base args ds gs before hval0 hW hcnd hsz hL _
  have hW' := hW
  obtain ⟨p, q, hA0, hV, rfl, hfz, hnd⟩ := hW
  have hval : ∀ (j : Nat) t v, Tryd.f8.params[j]? = some t → args[j]? = some v → Value.okWide Tryd.prog W .any base t v := hval0
  have hA : DataW.TrodAll enc Tryd.prog W 0 (fun _ => true) true Tryd.f8.params.toList args.toList ds p := hA0
  rw [Tryd.params8] at hA hval
  obtain ⟨v0, vs0, d0, ds0, p0, q0, hargs, rfl, rfl, h0, r0⟩ := trodAll_cons hA
  obtain ⟨v1, vs1, d1, ds1, p1, q1, rfl, rfl, rfl, h1, r1⟩ := trodAll_cons r0
  obtain ⟨v2, vs2, d2, ds2, p2, q2, rfl, rfl, rfl, h2, r2⟩ := trodAll_cons r1
  obtain ⟨rfl, rfl, rfl⟩ := trodAll_nil r2
  obtain rfl : args = #[v0, v1, v2] := args_eq hargs
  obtain ⟨rfl, rfl⟩ := trodVars_none hV
  obtain ⟨fuel0, hf0⟩ := h0
  obtain ⟨cs0, rfl⟩ : ∃ cs, v0 = .agg cs := by
    obtain ⟨cs, h, _⟩ := okWide_struct Tryd.underlying23 (hval 0 23 v0 rfl rfl)
    exact ⟨cs, h⟩
  obtain ⟨x0, rx0, ok0⟩ := (opens_t23) enc W 0 _ _ _ _ _ hf0
  obtain ⟨fuel1, hf1⟩ := h1
  obtain ⟨A1, l1, c1, rfl⟩ := okWide_slice Tryd.underlying55 (hval 1 55 v1 rfl rfl)
  obtain ⟨x1, rx1, ok1⟩ := (opens_t55) enc W 0 _ _ _ _ _ hf1
  obtain ⟨fuel2, hf2⟩ := h2
  obtain ⟨s2, rfl⟩ := okWide_string Tryd.underlying9 (hval 2 9 v2 rfl rfl)
  obtain ⟨x2, rx2, ok2⟩ := (opensA_str Tryd.underlying9) enc W 0 _ _ _ _ _ hf2
  refine (walk_of (fnExactRunGestures_con x0 x1 x2 ok0.1 ok2) (RelTL.cons (relTL_agg rx0) (RelTL.cons (relTL_one rx1) (RelTL.cons (relTL_one rx2) RelTL.nil)))).mono fun e W1 ⟨he, hb⟩ => ?_
  subst he
  exact ⟨_, rfl, law_post Tryd.laidOut rfl Tryd.underlying4 (of_decide_eq_true (by kernel_rfl)) rfl hW' hb rfl⟩

theorem over : Rows.fnExactRunGesturesRow.holds Tryd.pinned (OpenSpec.ofChange Rows.fnExactRunGesturesSpec) :=
  OpenClaim.holds_of_wide 8 Tryd.f8 rfl rfl rfl rfl rfl rfl rfl ⟨rfl, rfl, rfl, rfl, rfl⟩ rfl rfl rfl rfl rfl (by kernel_rfl) Tryd.func8 (by kernel_rfl)
    (of_decide_eq_true (by kernel_rfl)) (by unfold Func.isWrapper; first | (rw [if_pos (by decide +kernel)]; kernel_rfl) | (rw [if_neg (by decide +kernel)]; exact ⟨rfl, rfl⟩))
    (fun os started H enc _ => lifted os started H enc)

theorem proved : Rows.FnExactRunGesturesCardSaid :=
  Claim7.holds_tied_plain_at .later [] [.data, .pinned] true (true, "3d85031d4e7652fe12aee05d9dc01959ff45425cfa39b8ff73c24344072cdb05") false over (fun _ h => by cases h) (by kernel_rfl) (fun _ h => by cases h) fnExactRunGestures_row_tie rfl ⟨rfl, rfl⟩ (by kernel_rfl) rfl
    (fun f fn hf hfn => by
      obtain rfl : f = 8 := Option.some.inj ((show Tryd.prog.funcNamed "loop.example/g00918/laws.FnExactRunGestures" = some 8 by kernel_rfl).symm.trans hf) |>.symm
      obtain rfl : fn = Tryd.f8 := (Option.some.inj (Tryd.func8.symm.trans hfn)).symm
      exact ⟨by kernel_rfl, fun j t ht => by
        rw [Tryd.params8] at ht
        have hm : t ∈ [23, 55, 9] := by simpa using Array.mem_of_getElem? ht
        have hall : ([23, 55, 9].all fun u => !Tryd.prog.wantsStandIn u) = true := by kernel_rfl
        exact (show Tryd.prog.wantsStandIn t = false by simpa using List.all_eq_true.1 hall t hm)⟩)
    (by kernel_rfl)
#print axioms proved
end fnExactRunGestures
end Go.Proofs.YtmchblafmhpegaaDoor.Ax
