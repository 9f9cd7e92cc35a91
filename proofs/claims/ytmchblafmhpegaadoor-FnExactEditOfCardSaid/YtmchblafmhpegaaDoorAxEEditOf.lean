/- The statement FnExactEditOf: contracts of what it reaches, and its proof. No conditions. -/
import Derived.Test.YtmchblafmhpegaaDoorAxEEditOf2
import Derived.LaidMore
import Derived.Lay
import Derived.OpenShut
import Derived.SevenTiedAt
import Derived.Shelf.Strings.SlTrimAscii
import Derived.Stop.Joined
namespace Go.Proofs.YtmchblafmhpegaaDoor.Ax
open Go.RowKit Go.ChangeShapes Go.WideShapes
set_option linter.unusedVariables false
set_option linter.unusedSimpArgs false


-- impl.EditOf
theorem implEditOf_ok (l : CellRow) (s : Stroke) (okl : l.Text.size ≤ 9223372036854775807) : Con Tryd.prog 25 [.agg [Sv l.Text, I l.X, I l.Y, I l.Cell], .agg [slPoint false s.Points]] true (.tup [.agg [I (((editOfR l s).1).Kind), I (((editOfR l s).1).From), I (((editOfR l s).1).To)], I ((editOfR l s).2)]) := by
  refine fn_ok (fn := Tryd.f25) (nt := 70) Tryd.func25 rfl rfl rfl rfl (by simp [taggedL, tagged, tagPoint]) fun B hB => ?_
  refine aw_lens (x := .agg [slPoint false s.Points]) 1 rfl (fun len_s => ?_)
  simp [LenOK, LenL, cPoint, fPoint, slPoint] at len_s
  refine aw_seq ?_
  refine aw_reg [(0, .new 2), (1, .new 3), (2, .new 4)] [2, 3, 4] [2, 3, 4] [.ref 2 0, .ref 3 0, .ref 4 0] [some (.box [Sv l.Text, I l.X, I l.Y, I l.Cell]), some (.box [slPoint false s.Points]), some (.box [I 0, I 0, I 0])] [] (by kernel_rfl) hB trivial ?_
  refine ae_then ?_
  refine aw_seq ?_
  refine aw_seq ?_
  rcases Bool.eq_false_or_eq_true (okRow l) with h1 | h1
  · have hr0 := h1
    have hr := okRow_iff.1 hr0
    rcases Bool.eq_false_or_eq_true (okStroke' s) with h2 | h2
    · have ok := h2
      have hln := okS_len ok
      have hbx := boxS_all ok
      unfold okBox at hbx
      have hpd := okP_iff.1 (okS_at ok (j := tipS s.Points s.Points.length) (tip_lt (by omega)))
      have htl := tip_lt (xs := s.Points) (by omega)
      have htn : ((tipS s.Points s.Points.length : Nat) : Int).toNat = tipS s.Points s.Points.length := Int.toNat_natCast _
      have hpd2 := hpd
      rw [← htn] at hpd2
      have hsp := spanS_bd l (boxS s.Points s.Points.length) l.Text.size
      refine aw_reg [(1, .call [(true, .agg [Sv l.Text, I l.X, I l.Y, I l.Cell])] true (Bv true)), (5, .call [(true, .agg [slPoint false s.Points])] true (Bv true))] [2, 3, 4, 18] [2, 3, 4] [.ref 2 0, .ref 3 0, .ref 4 0, Bv false] [some (.box [Sv l.Text, I l.X, I l.Y, I l.Cell]), some (.box [slPoint false s.Points]), some (.box [I 0, I 0, I 0])] [Con Tryd.prog 12 [.agg [Sv l.Text, I l.X, I l.Y, I l.Cell]] true (Bv true) ∧ ((.agg [Sv l.Text, I l.X, I l.Y, I l.Cell] : AV) = .agg [Sv l.Text, I l.X, I l.Y, I l.Cell]) ∧ True, Con Tryd.prog 44 [.agg [slPoint false s.Points]] true (Bv true) ∧ ((.agg [slPoint false s.Points] : AV) = .agg [slPoint false s.Points]) ∧ True] (by kernel_rfl) hB ⟨⟨(con_bool h1 (ValidCellRow_ok l okl)), rfl, trivial⟩, ⟨(con_bool h2 (ValidStroke_ok s)), rfl, trivial⟩, trivial⟩ ?_
      refine ae_then ?_
      refine aw_false rfl ?_
      refine aw_skip ?_
      refine ae_then ?_
      refine aw_seq ?_
      refine aw_reg [] [2, 3, 4] [2, 3, 4] [.ref 2 0, .ref 3 0, .ref 4 0] [some (.box [Sv l.Text, I l.X, I l.Y, I l.Cell]), some (.box [slPoint false s.Points]), some (.box [I 0, I 0, I 0])] [] (by kernel_rfl) hB trivial ?_
      refine ae_then ?_
      refine aw_seq ?_
      refine aw_seq ?_
      refine aw_reg [(1, .call [(true, .agg [slPoint false s.Points])] true (I (gestI s)))] [2, 3, 4, 21] [2, 3, 4] [.ref 2 0, .ref 3 0, .ref 4 0, I (gestI s)] [some (.box [Sv l.Text, I l.X, I l.Y, I l.Cell]), some (.box [slPoint false s.Points]), some (.box [I 0, I 0, I 0])] [Con Tryd.prog 45 [.agg [slPoint false s.Points]] true (I (gestI s)) ∧ ((.agg [slPoint false s.Points] : AV) = .agg [slPoint false s.Points]) ∧ True] (by kernel_rfl) hB ⟨⟨(gestureOf_ok s ok), rfl, trivial⟩, trivial⟩ ?_
      refine ae_then ?_
      refine aw_block ?_
      refine aw_seq ?_
      by_cases h3 : (gestI s) = 2
      · refine aw_reg [(0, .dec true)] [2, 3, 4, 21, 23] [2, 3, 4] [.ref 2 0, .ref 3 0, .ref 4 0, I (gestI s), Bv true] [some (.box [Sv l.Text, I l.X, I l.Y, I l.Cell]), some (.box [slPoint false s.Points]), some (.box [I 0, I 0, I 0])] [(gestI s) = 2] (by kernel_rfl) hB ⟨h3, trivial⟩ ?_
        refine ae_then ?_
        refine aw_true rfl ?_
        refine aw_reg [] [2, 3, 4, 6] [2, 3, 4] [.ref 2 0, .ref 3 0, .ref 4 0, I 1] [some (.box [Sv l.Text, I l.X, I l.Y, I l.Cell]), some (.box [slPoint false s.Points]), some (.box [I 0, I 0, I 0])] [] (by kernel_rfl) hB trivial ?_
        refine ae_block 0 ?_
        refine ae_then ?_
        refine aw_seq ?_
        refine aw_reg [(1, .call [(true, .agg [slPoint false s.Points])] true (.agg [I ((boxS s.Points s.Points.length).X1), I ((boxS s.Points s.Points.length).Y1), I ((boxS s.Points s.Points.length).X2), I ((boxS s.Points s.Points.length).Y2)])), (2, .new 7)] [2, 3, 4, 6, 7] [2, 3, 4, 7] [.ref 2 0, .ref 3 0, .ref 4 0, I 1, .ref 7 0] [some (.box [Sv l.Text, I l.X, I l.Y, I l.Cell]), some (.box [slPoint false s.Points]), some (.box [I 0, I 0, I 0]), some (.box [I ((boxS s.Points s.Points.length).X1), I ((boxS s.Points s.Points.length).Y1), I ((boxS s.Points s.Points.length).X2), I ((boxS s.Points s.Points.length).Y2)])] [Con Tryd.prog 46 [.agg [slPoint false s.Points]] true (.agg [I ((boxS s.Points s.Points.length).X1), I ((boxS s.Points s.Points.length).Y1), I ((boxS s.Points s.Points.length).X2), I ((boxS s.Points s.Points.length).Y2)]) ∧ ((.agg [slPoint false s.Points] : AV) = .agg [slPoint false s.Points]) ∧ True] (by kernel_rfl) hB ⟨⟨(boxOfStroke_ok s ok), rfl, trivial⟩, trivial⟩ ?_
        refine ae_then ?_
        refine aw_seq ?_
        refine aw_seq ?_
        by_cases h4 : (l.Y + (2 * l.Cell)) < ((boxS s.Points s.Points.length).Y1)
        · refine aw_reg [(8, .dec true)] [2, 3, 4, 6, 7, 46] [2, 3, 4, 7] [.ref 2 0, .ref 3 0, .ref 4 0, I 1, .ref 7 0, Bv true] [some (.box [Sv l.Text, I l.X, I l.Y, I l.Cell]), some (.box [slPoint false s.Points]), some (.box [I 0, I 0, I 0]), some (.box [I ((boxS s.Points s.Points.length).X1), I ((boxS s.Points s.Points.length).Y1), I ((boxS s.Points s.Points.length).X2), I ((boxS s.Points s.Points.length).Y2)])] [inR .i64 (2 * l.Cell), inR .i64 (l.Y + (2 * l.Cell)), (l.Y + (2 * l.Cell)) < ((boxS s.Points s.Points.length).Y1)] (by kernel_rfl) hB ⟨(inR_i64 (by omega) (by omega)), (inR_i64 (by omega) (by omega)), h4, trivial⟩ ?_
          refine ae_then ?_
          refine aw_true rfl ?_
          refine aw_seq ?_
          refine aw_reg [] [4, 5] [4] [.ref 4 0, I 3] [some (.box [I 0, I 0, I 0])] [] (by kernel_rfl) hB trivial ?_
          refine ae_then ?_
          refine aw_ret ?_
          refine ae_ret_then ?_
          refine ae_ret hB (.tup [.agg [I 0, I 0, I 0], I 3]) (by kernel_rfl) (.inl (by simp [editOfR, editR, kindI, *])) rfl (fun _ => (by simp [tagged, taggedL]))
        · by_cases h5 : ((boxS s.Points s.Points.length).Y2) < l.Y
          · refine aw_reg [(8, .dec false), (14, .dec true)] [2, 3, 4, 6, 7, 46] [2, 3, 4, 7] [.ref 2 0, .ref 3 0, .ref 4 0, I 1, .ref 7 0, Bv true] [some (.box [Sv l.Text, I l.X, I l.Y, I l.Cell]), some (.box [slPoint false s.Points]), some (.box [I 0, I 0, I 0]), some (.box [I ((boxS s.Points s.Points.length).X1), I ((boxS s.Points s.Points.length).Y1), I ((boxS s.Points s.Points.length).X2), I ((boxS s.Points s.Points.length).Y2)])] [inR .i64 (2 * l.Cell), inR .i64 (l.Y + (2 * l.Cell)), ¬ ((l.Y + (2 * l.Cell)) < ((boxS s.Points s.Points.length).Y1)), ((boxS s.Points s.Points.length).Y2) < l.Y] (by kernel_rfl) hB ⟨(inR_i64 (by omega) (by omega)), (inR_i64 (by omega) (by omega)), h4, h5, trivial⟩ ?_
            refine ae_then ?_
            refine aw_true rfl ?_
            refine aw_seq ?_
            refine aw_reg [] [4, 5] [4] [.ref 4 0, I 3] [some (.box [I 0, I 0, I 0])] [] (by kernel_rfl) hB trivial ?_
            refine ae_then ?_
            refine aw_ret ?_
            refine ae_ret_then ?_
            refine ae_ret hB (.tup [.agg [I 0, I 0, I 0], I 3]) (by kernel_rfl) (.inl (by simp [editOfR, editR, kindI, *])) rfl (fun _ => (by simp [tagged, taggedL]))
          · refine aw_reg [(8, .dec false), (14, .dec false)] [2, 3, 4, 6, 7, 46] [2, 3, 4, 7] [.ref 2 0, .ref 3 0, .ref 4 0, I 1, .ref 7 0, Bv false] [some (.box [Sv l.Text, I l.X, I l.Y, I l.Cell]), some (.box [slPoint false s.Points]), some (.box [I 0, I 0, I 0]), some (.box [I ((boxS s.Points s.Points.length).X1), I ((boxS s.Points s.Points.length).Y1), I ((boxS s.Points s.Points.length).X2), I ((boxS s.Points s.Points.length).Y2)])] [inR .i64 (2 * l.Cell), inR .i64 (l.Y + (2 * l.Cell)), ¬ ((l.Y + (2 * l.Cell)) < ((boxS s.Points s.Points.length).Y1)), ¬ (((boxS s.Points s.Points.length).Y2) < l.Y)] (by kernel_rfl) hB ⟨(inR_i64 (by omega) (by omega)), (inR_i64 (by omega) (by omega)), h4, h5, trivial⟩ ?_
            refine ae_then ?_
            refine aw_false rfl ?_
            refine aw_skip ?_
            refine ae_then ?_
            refine aw_seq ?_
            refine aw_seq ?_
            refine aw_reg [(1, .dec false)] [2, 3, 4, 6, 7, 49] [2, 3, 4, 7] [.ref 2 0, .ref 3 0, .ref 4 0, I 1, .ref 7 0, Bv false] [some (.box [Sv l.Text, I l.X, I l.Y, I l.Cell]), some (.box [slPoint false s.Points]), some (.box [I 0, I 0, I 0]), some (.box [I ((boxS s.Points s.Points.length).X1), I ((boxS s.Points s.Points.length).Y1), I ((boxS s.Points s.Points.length).X2), I ((boxS s.Points s.Points.length).Y2)])] [¬ ((1 : Int) = 3)] (by kernel_rfl) hB ⟨(by decide), trivial⟩ ?_
            refine ae_then ?_
            refine aw_false rfl ?_
            refine aw_skip ?_
            refine ae_then ?_
            refine aw_seq ?_
            refine aw_reg [(2, .call [(true, .agg [Sv l.Text, I l.X, I l.Y, I l.Cell]), (true, .agg [I ((boxS s.Points s.Points.length).X1), I ((boxS s.Points s.Points.length).Y1), I ((boxS s.Points s.Points.length).X2), I ((boxS s.Points s.Points.length).Y2)])] true (.tup [I ((spanS l (boxS s.Points s.Points.length) l.Text.size).1), I ((spanS l (boxS s.Points s.Points.length) l.Text.size).2)]))] [4, 6, 9, 10] [4] [.ref 4 0, I 1, I ((spanS l (boxS s.Points s.Points.length) l.Text.size).1), I ((spanS l (boxS s.Points s.Points.length) l.Text.size).2)] [some (.box [I 0, I 0, I 0])] [Con Tryd.prog 48 [.agg [Sv l.Text, I l.X, I l.Y, I l.Cell], .agg [I ((boxS s.Points s.Points.length).X1), I ((boxS s.Points s.Points.length).Y1), I ((boxS s.Points s.Points.length).X2), I ((boxS s.Points s.Points.length).Y2)]] true (.tup [I ((spanS l (boxS s.Points s.Points.length) l.Text.size).1), I ((spanS l (boxS s.Points s.Points.length) l.Text.size).2)]) ∧ ((.agg [Sv l.Text, I l.X, I l.Y, I l.Cell] : AV) = .agg [Sv l.Text, I l.X, I l.Y, I l.Cell]) ∧ ((.agg [I ((boxS s.Points s.Points.length).X1), I ((boxS s.Points s.Points.length).Y1), I ((boxS s.Points s.Points.length).X2), I ((boxS s.Points s.Points.length).Y2)] : AV) = .agg [I ((boxS s.Points s.Points.length).X1), I ((boxS s.Points s.Points.length).Y1), I ((boxS s.Points s.Points.length).X2), I ((boxS s.Points s.Points.length).Y2)]) ∧ True] (by kernel_rfl) hB ⟨⟨(lettersUnder_ok l (boxS s.Points s.Points.length) hr0 (by omega)), rfl, rfl, trivial⟩, trivial⟩ ?_
            refine ae_then ?_
            refine aw_seq ?_
            refine aw_seq ?_
            by_cases h6 : ((spanS l (boxS s.Points s.Points.length) l.Text.size).2) = 0
            · refine aw_reg [(1, .dec true)] [4, 6, 9, 10, 64] [4] [.ref 4 0, I 1, I ((spanS l (boxS s.Points s.Points.length) l.Text.size).1), I ((spanS l (boxS s.Points s.Points.length) l.Text.size).2), Bv true] [some (.box [I 0, I 0, I 0])] [((spanS l (boxS s.Points s.Points.length) l.Text.size).2) = 0] (by kernel_rfl) hB ⟨h6, trivial⟩ ?_
              refine ae_then ?_
              refine aw_true rfl ?_
              refine aw_seq ?_
              refine aw_reg [] [4, 5] [4] [.ref 4 0, I 3] [some (.box [I 0, I 0, I 0])] [] (by kernel_rfl) hB trivial ?_
              refine ae_then ?_
              refine aw_ret ?_
              refine ae_ret_then ?_
              refine ae_ret hB (.tup [.agg [I 0, I 0, I 0], I 3]) (by kernel_rfl) (.inl (by simp [editOfR, editR, kindI, *])) rfl (fun _ => (by simp [tagged, taggedL]))
            · refine aw_reg [(1, .dec false)] [4, 6, 9, 10, 64] [4] [.ref 4 0, I 1, I ((spanS l (boxS s.Points s.Points.length) l.Text.size).1), I ((spanS l (boxS s.Points s.Points.length) l.Text.size).2), Bv false] [some (.box [I 0, I 0, I 0])] [¬ (((spanS l (boxS s.Points s.Points.length) l.Text.size).2) = 0)] (by kernel_rfl) hB ⟨h6, trivial⟩ ?_
              refine ae_then ?_
              refine aw_false rfl ?_
              refine aw_skip ?_
              refine ae_then ?_
              refine aw_seq ?_
              refine aw_reg [] [4, 5] [4] [.ref 4 0, I 0] [some (.box [I 1, I ((spanS l (boxS s.Points s.Points.length) l.Text.size).1), I ((spanS l (boxS s.Points s.Points.length) l.Text.size).2)])] [] (by kernel_rfl) hB trivial ?_
              refine ae_then ?_
              refine aw_ret ?_
              refine ae_ret hB (.tup [.agg [I 1, I ((spanS l (boxS s.Points s.Points.length) l.Text.size).1), I ((spanS l (boxS s.Points s.Points.length) l.Text.size).2)], I 0]) (by kernel_rfl) (.inl (by simp [editOfR, editR, kindI, *])) rfl (fun _ => (by simp [tagged, taggedL]))
      · refine aw_reg [(0, .dec false)] [2, 3, 4, 21, 23] [2, 3, 4] [.ref 2 0, .ref 3 0, .ref 4 0, I (gestI s), Bv false] [some (.box [Sv l.Text, I l.X, I l.Y, I l.Cell]), some (.box [slPoint false s.Points]), some (.box [I 0, I 0, I 0])] [¬ ((gestI s) = 2)] (by kernel_rfl) hB ⟨h3, trivial⟩ ?_
        refine ae_then ?_
        refine aw_false rfl ?_
        refine aw_seq ?_
        by_cases h7 : (gestI s) = 3
        · refine aw_reg [(0, .dec true)] [2, 3, 4, 21, 25] [2, 3, 4] [.ref 2 0, .ref 3 0, .ref 4 0, I (gestI s), Bv true] [some (.box [Sv l.Text, I l.X, I l.Y, I l.Cell]), some (.box [slPoint false s.Points]), some (.box [I 0, I 0, I 0])] [(gestI s) = 3] (by kernel_rfl) hB ⟨h7, trivial⟩ ?_
          refine ae_then ?_
          refine aw_true rfl ?_
          refine aw_reg [] [2, 3, 4, 6] [2, 3, 4] [.ref 2 0, .ref 3 0, .ref 4 0, I 2] [some (.box [Sv l.Text, I l.X, I l.Y, I l.Cell]), some (.box [slPoint false s.Points]), some (.box [I 0, I 0, I 0])] [] (by kernel_rfl) hB trivial ?_
          refine ae_block 0 ?_
          refine ae_then ?_
          refine aw_seq ?_
          refine aw_reg [(1, .call [(true, .agg [slPoint false s.Points])] true (.agg [I ((boxS s.Points s.Points.length).X1), I ((boxS s.Points s.Points.length).Y1), I ((boxS s.Points s.Points.length).X2), I ((boxS s.Points s.Points.length).Y2)])), (2, .new 7)] [2, 3, 4, 6, 7] [2, 3, 4, 7] [.ref 2 0, .ref 3 0, .ref 4 0, I 2, .ref 7 0] [some (.box [Sv l.Text, I l.X, I l.Y, I l.Cell]), some (.box [slPoint false s.Points]), some (.box [I 0, I 0, I 0]), some (.box [I ((boxS s.Points s.Points.length).X1), I ((boxS s.Points s.Points.length).Y1), I ((boxS s.Points s.Points.length).X2), I ((boxS s.Points s.Points.length).Y2)])] [Con Tryd.prog 46 [.agg [slPoint false s.Points]] true (.agg [I ((boxS s.Points s.Points.length).X1), I ((boxS s.Points s.Points.length).Y1), I ((boxS s.Points s.Points.length).X2), I ((boxS s.Points s.Points.length).Y2)]) ∧ ((.agg [slPoint false s.Points] : AV) = .agg [slPoint false s.Points]) ∧ True] (by kernel_rfl) hB ⟨⟨(boxOfStroke_ok s ok), rfl, trivial⟩, trivial⟩ ?_
          refine ae_then ?_
          refine aw_seq ?_
          refine aw_seq ?_
          by_cases h8 : (l.Y + (2 * l.Cell)) < ((boxS s.Points s.Points.length).Y1)
          · refine aw_reg [(8, .dec true)] [2, 3, 4, 6, 7, 46] [2, 3, 4, 7] [.ref 2 0, .ref 3 0, .ref 4 0, I 2, .ref 7 0, Bv true] [some (.box [Sv l.Text, I l.X, I l.Y, I l.Cell]), some (.box [slPoint false s.Points]), some (.box [I 0, I 0, I 0]), some (.box [I ((boxS s.Points s.Points.length).X1), I ((boxS s.Points s.Points.length).Y1), I ((boxS s.Points s.Points.length).X2), I ((boxS s.Points s.Points.length).Y2)])] [inR .i64 (2 * l.Cell), inR .i64 (l.Y + (2 * l.Cell)), (l.Y + (2 * l.Cell)) < ((boxS s.Points s.Points.length).Y1)] (by kernel_rfl) hB ⟨(inR_i64 (by omega) (by omega)), (inR_i64 (by omega) (by omega)), h8, trivial⟩ ?_
            refine ae_then ?_
            refine aw_true rfl ?_
            refine aw_seq ?_
            refine aw_reg [] [4, 5] [4] [.ref 4 0, I 3] [some (.box [I 0, I 0, I 0])] [] (by kernel_rfl) hB trivial ?_
            refine ae_then ?_
            refine aw_ret ?_
            refine ae_ret_then ?_
            refine ae_ret hB (.tup [.agg [I 0, I 0, I 0], I 3]) (by kernel_rfl) (.inl (by simp [editOfR, editR, kindI, *])) rfl (fun _ => (by simp [tagged, taggedL]))
          · by_cases h9 : ((boxS s.Points s.Points.length).Y2) < l.Y
            · refine aw_reg [(8, .dec false), (14, .dec true)] [2, 3, 4, 6, 7, 46] [2, 3, 4, 7] [.ref 2 0, .ref 3 0, .ref 4 0, I 2, .ref 7 0, Bv true] [some (.box [Sv l.Text, I l.X, I l.Y, I l.Cell]), some (.box [slPoint false s.Points]), some (.box [I 0, I 0, I 0]), some (.box [I ((boxS s.Points s.Points.length).X1), I ((boxS s.Points s.Points.length).Y1), I ((boxS s.Points s.Points.length).X2), I ((boxS s.Points s.Points.length).Y2)])] [inR .i64 (2 * l.Cell), inR .i64 (l.Y + (2 * l.Cell)), ¬ ((l.Y + (2 * l.Cell)) < ((boxS s.Points s.Points.length).Y1)), ((boxS s.Points s.Points.length).Y2) < l.Y] (by kernel_rfl) hB ⟨(inR_i64 (by omega) (by omega)), (inR_i64 (by omega) (by omega)), h8, h9, trivial⟩ ?_
              refine ae_then ?_
              refine aw_true rfl ?_
              refine aw_seq ?_
              refine aw_reg [] [4, 5] [4] [.ref 4 0, I 3] [some (.box [I 0, I 0, I 0])] [] (by kernel_rfl) hB trivial ?_
              refine ae_then ?_
              refine aw_ret ?_
              refine ae_ret_then ?_
              refine ae_ret hB (.tup [.agg [I 0, I 0, I 0], I 3]) (by kernel_rfl) (.inl (by simp [editOfR, editR, kindI, *])) rfl (fun _ => (by simp [tagged, taggedL]))
            · refine aw_reg [(8, .dec false), (14, .dec false)] [2, 3, 4, 6, 7, 46] [2, 3, 4, 7] [.ref 2 0, .ref 3 0, .ref 4 0, I 2, .ref 7 0, Bv false] [some (.box [Sv l.Text, I l.X, I l.Y, I l.Cell]), some (.box [slPoint false s.Points]), some (.box [I 0, I 0, I 0]), some (.box [I ((boxS s.Points s.Points.length).X1), I ((boxS s.Points s.Points.length).Y1), I ((boxS s.Points s.Points.length).X2), I ((boxS s.Points s.Points.length).Y2)])] [inR .i64 (2 * l.Cell), inR .i64 (l.Y + (2 * l.Cell)), ¬ ((l.Y + (2 * l.Cell)) < ((boxS s.Points s.Points.length).Y1)), ¬ (((boxS s.Points s.Points.length).Y2) < l.Y)] (by kernel_rfl) hB ⟨(inR_i64 (by omega) (by omega)), (inR_i64 (by omega) (by omega)), h8, h9, trivial⟩ ?_
              refine ae_then ?_
              refine aw_false rfl ?_
              refine aw_skip ?_
              refine ae_then ?_
              refine aw_seq ?_
              refine aw_seq ?_
              refine aw_reg [(1, .dec false)] [2, 3, 4, 6, 7, 49] [2, 3, 4, 7] [.ref 2 0, .ref 3 0, .ref 4 0, I 2, .ref 7 0, Bv false] [some (.box [Sv l.Text, I l.X, I l.Y, I l.Cell]), some (.box [slPoint false s.Points]), some (.box [I 0, I 0, I 0]), some (.box [I ((boxS s.Points s.Points.length).X1), I ((boxS s.Points s.Points.length).Y1), I ((boxS s.Points s.Points.length).X2), I ((boxS s.Points s.Points.length).Y2)])] [¬ ((2 : Int) = 3)] (by kernel_rfl) hB ⟨(by decide), trivial⟩ ?_
              refine ae_then ?_
              refine aw_false rfl ?_
              refine aw_skip ?_
              refine ae_then ?_
              refine aw_seq ?_
              refine aw_reg [(2, .call [(true, .agg [Sv l.Text, I l.X, I l.Y, I l.Cell]), (true, .agg [I ((boxS s.Points s.Points.length).X1), I ((boxS s.Points s.Points.length).Y1), I ((boxS s.Points s.Points.length).X2), I ((boxS s.Points s.Points.length).Y2)])] true (.tup [I ((spanS l (boxS s.Points s.Points.length) l.Text.size).1), I ((spanS l (boxS s.Points s.Points.length) l.Text.size).2)]))] [4, 6, 9, 10] [4] [.ref 4 0, I 2, I ((spanS l (boxS s.Points s.Points.length) l.Text.size).1), I ((spanS l (boxS s.Points s.Points.length) l.Text.size).2)] [some (.box [I 0, I 0, I 0])] [Con Tryd.prog 48 [.agg [Sv l.Text, I l.X, I l.Y, I l.Cell], .agg [I ((boxS s.Points s.Points.length).X1), I ((boxS s.Points s.Points.length).Y1), I ((boxS s.Points s.Points.length).X2), I ((boxS s.Points s.Points.length).Y2)]] true (.tup [I ((spanS l (boxS s.Points s.Points.length) l.Text.size).1), I ((spanS l (boxS s.Points s.Points.length) l.Text.size).2)]) ∧ ((.agg [Sv l.Text, I l.X, I l.Y, I l.Cell] : AV) = .agg [Sv l.Text, I l.X, I l.Y, I l.Cell]) ∧ ((.agg [I ((boxS s.Points s.Points.length).X1), I ((boxS s.Points s.Points.length).Y1), I ((boxS s.Points s.Points.length).X2), I ((boxS s.Points s.Points.length).Y2)] : AV) = .agg [I ((boxS s.Points s.Points.length).X1), I ((boxS s.Points s.Points.length).Y1), I ((boxS s.Points s.Points.length).X2), I ((boxS s.Points s.Points.length).Y2)]) ∧ True] (by kernel_rfl) hB ⟨⟨(lettersUnder_ok l (boxS s.Points s.Points.length) hr0 (by omega)), rfl, rfl, trivial⟩, trivial⟩ ?_
              refine ae_then ?_
              refine aw_seq ?_
              refine aw_seq ?_
              by_cases h10 : ((spanS l (boxS s.Points s.Points.length) l.Text.size).2) = 0
              · refine aw_reg [(1, .dec true)] [4, 6, 9, 10, 64] [4] [.ref 4 0, I 2, I ((spanS l (boxS s.Points s.Points.length) l.Text.size).1), I ((spanS l (boxS s.Points s.Points.length) l.Text.size).2), Bv true] [some (.box [I 0, I 0, I 0])] [((spanS l (boxS s.Points s.Points.length) l.Text.size).2) = 0] (by kernel_rfl) hB ⟨h10, trivial⟩ ?_
                refine ae_then ?_
                refine aw_true rfl ?_
                refine aw_seq ?_
                refine aw_reg [] [4, 5] [4] [.ref 4 0, I 3] [some (.box [I 0, I 0, I 0])] [] (by kernel_rfl) hB trivial ?_
                refine ae_then ?_
                refine aw_ret ?_
                refine ae_ret_then ?_
                refine ae_ret hB (.tup [.agg [I 0, I 0, I 0], I 3]) (by kernel_rfl) (.inl (by simp [editOfR, editR, kindI, *])) rfl (fun _ => (by simp [tagged, taggedL]))
              · refine aw_reg [(1, .dec false)] [4, 6, 9, 10, 64] [4] [.ref 4 0, I 2, I ((spanS l (boxS s.Points s.Points.length) l.Text.size).1), I ((spanS l (boxS s.Points s.Points.length) l.Text.size).2), Bv false] [some (.box [I 0, I 0, I 0])] [¬ (((spanS l (boxS s.Points s.Points.length) l.Text.size).2) = 0)] (by kernel_rfl) hB ⟨h10, trivial⟩ ?_
                refine ae_then ?_
                refine aw_false rfl ?_
                refine aw_skip ?_
                refine ae_then ?_
                refine aw_seq ?_
                refine aw_reg [] [4, 5] [4] [.ref 4 0, I 0] [some (.box [I 2, I ((spanS l (boxS s.Points s.Points.length) l.Text.size).1), I ((spanS l (boxS s.Points s.Points.length) l.Text.size).2)])] [] (by kernel_rfl) hB trivial ?_
                refine ae_then ?_
                refine aw_ret ?_
                refine ae_ret hB (.tup [.agg [I 2, I ((spanS l (boxS s.Points s.Points.length) l.Text.size).1), I ((spanS l (boxS s.Points s.Points.length) l.Text.size).2)], I 0]) (by kernel_rfl) (.inl (by simp [editOfR, editR, kindI, *])) rfl (fun _ => (by simp [tagged, taggedL]))
        · refine aw_reg [(0, .dec false)] [2, 3, 4, 21, 25] [2, 3, 4] [.ref 2 0, .ref 3 0, .ref 4 0, I (gestI s), Bv false] [some (.box [Sv l.Text, I l.X, I l.Y, I l.Cell]), some (.box [slPoint false s.Points]), some (.box [I 0, I 0, I 0])] [¬ ((gestI s) = 3)] (by kernel_rfl) hB ⟨h7, trivial⟩ ?_
          refine ae_then ?_
          refine aw_false rfl ?_
          refine aw_seq ?_
          by_cases h11 : (gestI s) = 4
          · refine aw_reg [(0, .dec true)] [2, 3, 4, 27] [2, 3, 4] [.ref 2 0, .ref 3 0, .ref 4 0, Bv true] [some (.box [Sv l.Text, I l.X, I l.Y, I l.Cell]), some (.box [slPoint false s.Points]), some (.box [I 0, I 0, I 0])] [(gestI s) = 4] (by kernel_rfl) hB ⟨h11, trivial⟩ ?_
            refine ae_then ?_
            refine aw_true rfl ?_
            refine aw_reg [] [2, 3, 4, 6] [2, 3, 4] [.ref 2 0, .ref 3 0, .ref 4 0, I 3] [some (.box [Sv l.Text, I l.X, I l.Y, I l.Cell]), some (.box [slPoint false s.Points]), some (.box [I 0, I 0, I 0])] [] (by kernel_rfl) hB trivial ?_
            refine ae_block 0 ?_
            refine ae_then ?_
            refine aw_seq ?_
            refine aw_reg [(1, .call [(true, .agg [slPoint false s.Points])] true (.agg [I ((boxS s.Points s.Points.length).X1), I ((boxS s.Points s.Points.length).Y1), I ((boxS s.Points s.Points.length).X2), I ((boxS s.Points s.Points.length).Y2)])), (2, .new 7)] [2, 3, 4, 6, 7] [2, 3, 4, 7] [.ref 2 0, .ref 3 0, .ref 4 0, I 3, .ref 7 0] [some (.box [Sv l.Text, I l.X, I l.Y, I l.Cell]), some (.box [slPoint false s.Points]), some (.box [I 0, I 0, I 0]), some (.box [I ((boxS s.Points s.Points.length).X1), I ((boxS s.Points s.Points.length).Y1), I ((boxS s.Points s.Points.length).X2), I ((boxS s.Points s.Points.length).Y2)])] [Con Tryd.prog 46 [.agg [slPoint false s.Points]] true (.agg [I ((boxS s.Points s.Points.length).X1), I ((boxS s.Points s.Points.length).Y1), I ((boxS s.Points s.Points.length).X2), I ((boxS s.Points s.Points.length).Y2)]) ∧ ((.agg [slPoint false s.Points] : AV) = .agg [slPoint false s.Points]) ∧ True] (by kernel_rfl) hB ⟨⟨(boxOfStroke_ok s ok), rfl, trivial⟩, trivial⟩ ?_
            refine ae_then ?_
            refine aw_seq ?_
            refine aw_seq ?_
            by_cases h12 : (l.Y + (2 * l.Cell)) < ((boxS s.Points s.Points.length).Y1)
            · refine aw_reg [(8, .dec true)] [2, 3, 4, 6, 7, 46] [2, 3, 4, 7] [.ref 2 0, .ref 3 0, .ref 4 0, I 3, .ref 7 0, Bv true] [some (.box [Sv l.Text, I l.X, I l.Y, I l.Cell]), some (.box [slPoint false s.Points]), some (.box [I 0, I 0, I 0]), some (.box [I ((boxS s.Points s.Points.length).X1), I ((boxS s.Points s.Points.length).Y1), I ((boxS s.Points s.Points.length).X2), I ((boxS s.Points s.Points.length).Y2)])] [inR .i64 (2 * l.Cell), inR .i64 (l.Y + (2 * l.Cell)), (l.Y + (2 * l.Cell)) < ((boxS s.Points s.Points.length).Y1)] (by kernel_rfl) hB ⟨(inR_i64 (by omega) (by omega)), (inR_i64 (by omega) (by omega)), h12, trivial⟩ ?_
              refine ae_then ?_
              refine aw_true rfl ?_
              refine aw_seq ?_
              refine aw_reg [] [4, 5] [4] [.ref 4 0, I 3] [some (.box [I 0, I 0, I 0])] [] (by kernel_rfl) hB trivial ?_
              refine ae_then ?_
              refine aw_ret ?_
              refine ae_ret_then ?_
              refine ae_ret hB (.tup [.agg [I 0, I 0, I 0], I 3]) (by kernel_rfl) (.inl (by simp [editOfR, editR, kindI, *])) rfl (fun _ => (by simp [tagged, taggedL]))
            · by_cases h13 : ((boxS s.Points s.Points.length).Y2) < l.Y
              · refine aw_reg [(8, .dec false), (14, .dec true)] [2, 3, 4, 6, 7, 46] [2, 3, 4, 7] [.ref 2 0, .ref 3 0, .ref 4 0, I 3, .ref 7 0, Bv true] [some (.box [Sv l.Text, I l.X, I l.Y, I l.Cell]), some (.box [slPoint false s.Points]), some (.box [I 0, I 0, I 0]), some (.box [I ((boxS s.Points s.Points.length).X1), I ((boxS s.Points s.Points.length).Y1), I ((boxS s.Points s.Points.length).X2), I ((boxS s.Points s.Points.length).Y2)])] [inR .i64 (2 * l.Cell), inR .i64 (l.Y + (2 * l.Cell)), ¬ ((l.Y + (2 * l.Cell)) < ((boxS s.Points s.Points.length).Y1)), ((boxS s.Points s.Points.length).Y2) < l.Y] (by kernel_rfl) hB ⟨(inR_i64 (by omega) (by omega)), (inR_i64 (by omega) (by omega)), h12, h13, trivial⟩ ?_
                refine ae_then ?_
                refine aw_true rfl ?_
                refine aw_seq ?_
                refine aw_reg [] [4, 5] [4] [.ref 4 0, I 3] [some (.box [I 0, I 0, I 0])] [] (by kernel_rfl) hB trivial ?_
                refine ae_then ?_
                refine aw_ret ?_
                refine ae_ret_then ?_
                refine ae_ret hB (.tup [.agg [I 0, I 0, I 0], I 3]) (by kernel_rfl) (.inl (by simp [editOfR, editR, kindI, *])) rfl (fun _ => (by simp [tagged, taggedL]))
              · refine aw_reg [(8, .dec false), (14, .dec false)] [2, 3, 4, 6, 7, 46] [2, 3, 4, 7] [.ref 2 0, .ref 3 0, .ref 4 0, I 3, .ref 7 0, Bv false] [some (.box [Sv l.Text, I l.X, I l.Y, I l.Cell]), some (.box [slPoint false s.Points]), some (.box [I 0, I 0, I 0]), some (.box [I ((boxS s.Points s.Points.length).X1), I ((boxS s.Points s.Points.length).Y1), I ((boxS s.Points s.Points.length).X2), I ((boxS s.Points s.Points.length).Y2)])] [inR .i64 (2 * l.Cell), inR .i64 (l.Y + (2 * l.Cell)), ¬ ((l.Y + (2 * l.Cell)) < ((boxS s.Points s.Points.length).Y1)), ¬ (((boxS s.Points s.Points.length).Y2) < l.Y)] (by kernel_rfl) hB ⟨(inR_i64 (by omega) (by omega)), (inR_i64 (by omega) (by omega)), h12, h13, trivial⟩ ?_
                refine ae_then ?_
                refine aw_false rfl ?_
                refine aw_skip ?_
                refine ae_then ?_
                refine aw_seq ?_
                refine aw_seq ?_
                refine aw_reg [(1, .dec true)] [2, 3, 4, 6, 7, 49] [2, 3, 4, 7] [.ref 2 0, .ref 3 0, .ref 4 0, I 3, .ref 7 0, Bv true] [some (.box [Sv l.Text, I l.X, I l.Y, I l.Cell]), some (.box [slPoint false s.Points]), some (.box [I 0, I 0, I 0]), some (.box [I ((boxS s.Points s.Points.length).X1), I ((boxS s.Points s.Points.length).Y1), I ((boxS s.Points s.Points.length).X2), I ((boxS s.Points s.Points.length).Y2)])] [(3 : Int) = 3] (by kernel_rfl) hB ⟨(by decide), trivial⟩ ?_
                refine ae_then ?_
                refine aw_true rfl ?_
                refine aw_seq ?_
                refine aw_reg [(2, .call [(true, .agg [Sv l.Text, I l.X, I l.Y, I l.Cell]), (true, .agg [slPoint false s.Points])] true (I (placeS l (at_ s.Points (tipS s.Points s.Points.length)).X l.Text.size)))] [4, 6, 8] [4] [.ref 4 0, I 3, I (placeS l (at_ s.Points (tipS s.Points s.Points.length)).X l.Text.size)] [some (.box [I 0, I 0, I 0])] [Con Tryd.prog 47 [.agg [Sv l.Text, I l.X, I l.Y, I l.Cell], .agg [slPoint false s.Points]] true (I (placeS l (at_ s.Points (tipS s.Points s.Points.length)).X l.Text.size)) ∧ ((.agg [Sv l.Text, I l.X, I l.Y, I l.Cell] : AV) = .agg [Sv l.Text, I l.X, I l.Y, I l.Cell]) ∧ ((.agg [slPoint false s.Points] : AV) = .agg [slPoint false s.Points]) ∧ True] (by kernel_rfl) hB ⟨⟨(insertPlace_ok l s hr0 ok), rfl, rfl, trivial⟩, trivial⟩ ?_
                refine ae_then ?_
                refine aw_seq ?_
                refine aw_reg [] [4, 5] [4] [.ref 4 0, I 0] [some (.box [I 3, I (placeS l (at_ s.Points (tipS s.Points s.Points.length)).X l.Text.size), I (placeS l (at_ s.Points (tipS s.Points s.Points.length)).X l.Text.size)])] [] (by kernel_rfl) hB trivial ?_
                refine ae_then ?_
                refine aw_ret ?_
                refine ae_ret_then ?_
                refine ae_ret hB (.tup [.agg [I 3, I (placeS l (at_ s.Points (tipS s.Points s.Points.length)).X l.Text.size), I (placeS l (at_ s.Points (tipS s.Points s.Points.length)).X l.Text.size)], I 0]) (by kernel_rfl) (.inl (by simp [editOfR, editR, kindI, *])) rfl (fun _ => (by simp [tagged, taggedL]))
          · refine aw_reg [(0, .dec false)] [2, 3, 4, 27] [2, 3, 4] [.ref 2 0, .ref 3 0, .ref 4 0, Bv false] [some (.box [Sv l.Text, I l.X, I l.Y, I l.Cell]), some (.box [slPoint false s.Points]), some (.box [I 0, I 0, I 0])] [¬ ((gestI s) = 4)] (by kernel_rfl) hB ⟨h11, trivial⟩ ?_
            refine ae_then ?_
            refine aw_false rfl ?_
            refine aw_seq ?_
            refine aw_reg [] [4, 5] [4] [.ref 4 0, I 6] [some (.box [I 0, I 0, I 0])] [] (by kernel_rfl) hB trivial ?_
            refine ae_then ?_
            refine aw_ret ?_
            refine ae_ret_block (ae_ret_then ?_)
            refine ae_ret hB (.tup [.agg [I 0, I 0, I 0], I 6]) (by kernel_rfl) (.inl (by simp [editOfR, editR, kindI, *])) rfl (fun _ => (by simp [tagged, taggedL]))
    · refine aw_reg [(1, .call [(true, .agg [Sv l.Text, I l.X, I l.Y, I l.Cell])] true (Bv true)), (5, .call [(true, .agg [slPoint false s.Points])] true (Bv false))] [2, 3, 4, 18] [2, 3, 4] [.ref 2 0, .ref 3 0, .ref 4 0, Bv true] [some (.box [Sv l.Text, I l.X, I l.Y, I l.Cell]), some (.box [slPoint false s.Points]), some (.box [I 0, I 0, I 0])] [Con Tryd.prog 12 [.agg [Sv l.Text, I l.X, I l.Y, I l.Cell]] true (Bv true) ∧ ((.agg [Sv l.Text, I l.X, I l.Y, I l.Cell] : AV) = .agg [Sv l.Text, I l.X, I l.Y, I l.Cell]) ∧ True, Con Tryd.prog 44 [.agg [slPoint false s.Points]] true (Bv false) ∧ ((.agg [slPoint false s.Points] : AV) = .agg [slPoint false s.Points]) ∧ True] (by kernel_rfl) hB ⟨⟨(con_bool h1 (ValidCellRow_ok l okl)), rfl, trivial⟩, ⟨(con_bool h2 (ValidStroke_ok s)), rfl, trivial⟩, trivial⟩ ?_
      refine ae_then ?_
      refine aw_true rfl ?_
      refine aw_seq ?_
      refine aw_reg [] [4, 5] [4] [.ref 4 0, I 1] [some (.box [I 0, I 0, I 0])] [] (by kernel_rfl) hB trivial ?_
      refine ae_then ?_
      refine aw_ret ?_
      refine ae_ret_then ?_
      refine ae_ret hB (.tup [.agg [I 0, I 0, I 0], I 1]) (by kernel_rfl) (.inl (by simp [editOfR, editR, kindI, *])) rfl (fun _ => (by simp [tagged, taggedL]))
  · refine aw_reg [(1, .call [(true, .agg [Sv l.Text, I l.X, I l.Y, I l.Cell])] true (Bv false))] [2, 3, 4, 18] [2, 3, 4] [.ref 2 0, .ref 3 0, .ref 4 0, Bv true] [some (.box [Sv l.Text, I l.X, I l.Y, I l.Cell]), some (.box [slPoint false s.Points]), some (.box [I 0, I 0, I 0])] [Con Tryd.prog 12 [.agg [Sv l.Text, I l.X, I l.Y, I l.Cell]] true (Bv false) ∧ ((.agg [Sv l.Text, I l.X, I l.Y, I l.Cell] : AV) = .agg [Sv l.Text, I l.X, I l.Y, I l.Cell]) ∧ True] (by kernel_rfl) hB ⟨⟨(con_bool h1 (ValidCellRow_ok l okl)), rfl, trivial⟩, trivial⟩ ?_
    refine ae_then ?_
    refine aw_true rfl ?_
    refine aw_seq ?_
    refine aw_reg [] [4, 5] [4] [.ref 4 0, I 1] [some (.box [I 0, I 0, I 0])] [] (by kernel_rfl) hB trivial ?_
    refine ae_then ?_
    refine aw_ret ?_
    refine ae_ret_then ?_
    refine ae_ret hB (.tup [.agg [I 0, I 0, I 0], I 1]) (by kernel_rfl) (.inl (by simp [editOfR, editR, kindI, *])) rfl (fun _ => (by simp [tagged, taggedL]))


-- laws.eqEdit
theorem eqEdit_ok (a : Edit) (b : Edit) : Con Tryd.prog 21 [.agg [I a.Kind, I a.From, I a.To], .agg [I b.Kind, I b.From, I b.To]] true (Bv (same a b)) := by
  refine fn_ok (fn := Tryd.f21) (nt := 20) Tryd.func21 rfl rfl rfl rfl (by simp [taggedL, tagged]) fun B hB => ?_
  refine aw_seq ?_
  refine aw_reg [(0, .new 2), (1, .new 3)] [2, 3] [2, 3] [.ref 2 0, .ref 3 0] [some (.box [I a.Kind, I a.From, I a.To]), some (.box [I b.Kind, I b.From, I b.To])] [] (by kernel_rfl) hB trivial ?_
  refine ae_then ?_
  refine aw_seq ?_
  refine aw_seq ?_
  by_cases h1 : a.Kind = b.Kind
  · refine aw_reg [(4, .dec false)] [2, 3, 9] [2, 3] [.ref 2 0, .ref 3 0, Bv false] [some (.box [I a.Kind, I a.From, I a.To]), some (.box [I b.Kind, I b.From, I b.To])] [¬ (a.Kind ≠ b.Kind)] (by kernel_rfl) hB ⟨(fun hq => hq h1), trivial⟩ ?_
    refine ae_then ?_
    refine aw_false rfl ?_
    refine aw_skip ?_
    refine ae_then ?_
    refine aw_seq ?_
    refine aw_seq ?_
    by_cases h2 : a.From = b.From
    · refine aw_reg [(4, .dec false)] [2, 3, 14] [2, 3] [.ref 2 0, .ref 3 0, Bv false] [some (.box [I a.Kind, I a.From, I a.To]), some (.box [I b.Kind, I b.From, I b.To])] [¬ (a.From ≠ b.From)] (by kernel_rfl) hB ⟨(fun hq => hq h2), trivial⟩ ?_
      refine ae_then ?_
      refine aw_false rfl ?_
      refine aw_skip ?_
      refine ae_then ?_
      refine aw_seq ?_
      refine aw_seq ?_
      by_cases h3 : a.To = b.To
      · refine aw_reg [(4, .dec false)] [19] [] [Bv false] [] [¬ (a.To ≠ b.To)] (by kernel_rfl) hB ⟨(fun hq => hq h3), trivial⟩ ?_
        refine ae_then ?_
        refine aw_false rfl ?_
        refine aw_skip ?_
        refine ae_then ?_
        refine aw_seq ?_
        refine aw_reg [] [4] [] [Bv true] [] [] (by kernel_rfl) hB trivial ?_
        refine ae_then ?_
        refine aw_ret ?_
        refine ae_ret hB (Bv true) (by kernel_rfl) (.inl (by first | (cases a; cases b; simp_all [same]; done) | (cases a; cases b; simp_all [same]; omega))) rfl (fun _ => trivial)
      · refine aw_reg [(4, .dec true)] [19] [] [Bv true] [] [a.To ≠ b.To] (by kernel_rfl) hB ⟨h3, trivial⟩ ?_
        refine ae_then ?_
        refine aw_true rfl ?_
        refine aw_seq ?_
        refine aw_reg [] [4] [] [Bv false] [] [] (by kernel_rfl) hB trivial ?_
        refine ae_then ?_
        refine aw_ret ?_
        refine ae_ret_then ?_
        refine ae_ret hB (Bv false) (by kernel_rfl) (.inl (by first | (cases a; cases b; simp_all [same]; done) | (cases a; cases b; simp_all [same]; omega))) rfl (fun _ => trivial)
    · refine aw_reg [(4, .dec true)] [2, 3, 14] [2, 3] [.ref 2 0, .ref 3 0, Bv true] [some (.box [I a.Kind, I a.From, I a.To]), some (.box [I b.Kind, I b.From, I b.To])] [a.From ≠ b.From] (by kernel_rfl) hB ⟨h2, trivial⟩ ?_
      refine ae_then ?_
      refine aw_true rfl ?_
      refine aw_seq ?_
      refine aw_reg [] [4] [] [Bv false] [] [] (by kernel_rfl) hB trivial ?_
      refine ae_then ?_
      refine aw_ret ?_
      refine ae_ret_then ?_
      refine ae_ret hB (Bv false) (by kernel_rfl) (.inl (by first | (cases a; cases b; simp_all [same]; done) | (cases a; cases b; simp_all [same]; omega))) rfl (fun _ => trivial)
  · refine aw_reg [(4, .dec true)] [2, 3, 9] [2, 3] [.ref 2 0, .ref 3 0, Bv true] [some (.box [I a.Kind, I a.From, I a.To]), some (.box [I b.Kind, I b.From, I b.To])] [a.Kind ≠ b.Kind] (by kernel_rfl) hB ⟨h1, trivial⟩ ?_
    refine ae_then ?_
    refine aw_true rfl ?_
    refine aw_seq ?_
    refine aw_reg [] [4] [] [Bv false] [] [] (by kernel_rfl) hB trivial ?_
    refine ae_then ?_
    refine aw_ret ?_
    refine ae_ret_then ?_
    refine ae_ret hB (Bv false) (by kernel_rfl) (.inl (by first | (cases a; cases b; simp_all [same]; done) | (cases a; cases b; simp_all [same]; omega))) rfl (fun _ => trivial)


-- laws.eqPoint
theorem eqPoint_ok (a : Point) (b : Point) : Con Tryd.prog 69 [.agg [I a.X, I a.Y, I a.T], .agg [I b.X, I b.Y, I b.T]] true (Bv (same a b)) := by
  refine fn_ok (fn := Tryd.f69) (nt := 20) Tryd.func69 rfl rfl rfl rfl (by simp [taggedL, tagged]) fun B hB => ?_
  refine aw_seq ?_
  refine aw_reg [(0, .new 2), (1, .new 3)] [2, 3] [2, 3] [.ref 2 0, .ref 3 0] [some (.box [I a.X, I a.Y, I a.T]), some (.box [I b.X, I b.Y, I b.T])] [] (by kernel_rfl) hB trivial ?_
  refine ae_then ?_
  refine aw_seq ?_
  refine aw_seq ?_
  by_cases h1 : a.X = b.X
  · refine aw_reg [(4, .dec false)] [2, 3, 9] [2, 3] [.ref 2 0, .ref 3 0, Bv false] [some (.box [I a.X, I a.Y, I a.T]), some (.box [I b.X, I b.Y, I b.T])] [¬ (a.X ≠ b.X)] (by kernel_rfl) hB ⟨(fun hq => hq h1), trivial⟩ ?_
    refine ae_then ?_
    refine aw_false rfl ?_
    refine aw_skip ?_
    refine ae_then ?_
    refine aw_seq ?_
    refine aw_seq ?_
    by_cases h2 : a.Y = b.Y
    · refine aw_reg [(4, .dec false)] [2, 3, 14] [2, 3] [.ref 2 0, .ref 3 0, Bv false] [some (.box [I a.X, I a.Y, I a.T]), some (.box [I b.X, I b.Y, I b.T])] [¬ (a.Y ≠ b.Y)] (by kernel_rfl) hB ⟨(fun hq => hq h2), trivial⟩ ?_
      refine ae_then ?_
      refine aw_false rfl ?_
      refine aw_skip ?_
      refine ae_then ?_
      refine aw_seq ?_
      refine aw_seq ?_
      by_cases h3 : a.T = b.T
      · refine aw_reg [(4, .dec false)] [19] [] [Bv false] [] [¬ (a.T ≠ b.T)] (by kernel_rfl) hB ⟨(fun hq => hq h3), trivial⟩ ?_
        refine ae_then ?_
        refine aw_false rfl ?_
        refine aw_skip ?_
        refine ae_then ?_
        refine aw_seq ?_
        refine aw_reg [] [4] [] [Bv true] [] [] (by kernel_rfl) hB trivial ?_
        refine ae_then ?_
        refine aw_ret ?_
        refine ae_ret hB (Bv true) (by kernel_rfl) (.inl (by first | (cases a; cases b; simp_all [same]; done) | (cases a; cases b; simp_all [same]; omega))) rfl (fun _ => trivial)
      · refine aw_reg [(4, .dec true)] [19] [] [Bv true] [] [a.T ≠ b.T] (by kernel_rfl) hB ⟨h3, trivial⟩ ?_
        refine ae_then ?_
        refine aw_true rfl ?_
        refine aw_seq ?_
        refine aw_reg [] [4] [] [Bv false] [] [] (by kernel_rfl) hB trivial ?_
        refine ae_then ?_
        refine aw_ret ?_
        refine ae_ret_then ?_
        refine ae_ret hB (Bv false) (by kernel_rfl) (.inl (by first | (cases a; cases b; simp_all [same]; done) | (cases a; cases b; simp_all [same]; omega))) rfl (fun _ => trivial)
    · refine aw_reg [(4, .dec true)] [2, 3, 14] [2, 3] [.ref 2 0, .ref 3 0, Bv true] [some (.box [I a.X, I a.Y, I a.T]), some (.box [I b.X, I b.Y, I b.T])] [a.Y ≠ b.Y] (by kernel_rfl) hB ⟨h2, trivial⟩ ?_
      refine ae_then ?_
      refine aw_true rfl ?_
      refine aw_seq ?_
      refine aw_reg [] [4] [] [Bv false] [] [] (by kernel_rfl) hB trivial ?_
      refine ae_then ?_
      refine aw_ret ?_
      refine ae_ret_then ?_
      refine ae_ret hB (Bv false) (by kernel_rfl) (.inl (by first | (cases a; cases b; simp_all [same]; done) | (cases a; cases b; simp_all [same]; omega))) rfl (fun _ => trivial)
  · refine aw_reg [(4, .dec true)] [2, 3, 9] [2, 3] [.ref 2 0, .ref 3 0, Bv true] [some (.box [I a.X, I a.Y, I a.T]), some (.box [I b.X, I b.Y, I b.T])] [a.X ≠ b.X] (by kernel_rfl) hB ⟨h1, trivial⟩ ?_
    refine ae_then ?_
    refine aw_true rfl ?_
    refine aw_seq ?_
    refine aw_reg [] [4] [] [Bv false] [] [] (by kernel_rfl) hB trivial ?_
    refine ae_then ?_
    refine aw_ret ?_
    refine ae_ret_then ?_
    refine ae_ret hB (Bv false) (by kernel_rfl) (.inl (by first | (cases a; cases b; simp_all [same]; done) | (cases a; cases b; simp_all [same]; omega))) rfl (fun _ => trivial)


-- laws.eqPointS
theorem eqPointS_ok (a : List Point) (b : List Point) : Con Tryd.prog 49 [slPoint false a, slPoint false b] true (Bv (same a b)) := by
  refine fn_ok (fn := Tryd.f49) (nt := 27) Tryd.func49 rfl rfl rfl rfl (by simp [taggedL, tagged, tagPoint]) fun B hB => ?_
  refine aw_lens (x := slPoint false a) 0 rfl (fun len_a => ?_)
  simp [LenOK, LenL, cPoint, fPoint, slPoint] at len_a
  refine aw_lens (x := slPoint false b) 1 rfl (fun len_b => ?_)
  simp [LenOK, LenL, cPoint, fPoint, slPoint] at len_b
  refine aw_seq ?_
  refine aw_reg [] [0, 1] [] [slPoint false a, slPoint false b] [] [] (by kernel_rfl) hB trivial ?_
  refine ae_then ?_
  refine aw_seq ?_
  refine aw_seq ?_
  by_cases h1 : (a.length : Int) = (b.length : Int)
  · refine aw_reg [(4, .dec false)] [0, 1, 10] [] [slPoint false a, slPoint false b, Bv false] [] [¬ ((a.length : Int) ≠ (b.length : Int))] (by kernel_rfl) hB ⟨(fun hq => hq h1), trivial⟩ ?_
    refine ae_then ?_
    refine aw_false rfl ?_
    refine aw_skip ?_
    refine ae_then ?_
    refine aw_seq ?_
    refine aw_seq ?_
    refine aw_reg [] [0, 1, 5] [] [slPoint false a, slPoint false b, I 0] [] [] (by kernel_rfl) hB trivial ?_
    refine ae_then ?_
    refine aw_block ?_
    refine aw_loop (fun gn gσ => ∃ (i : Int), gn = ((a.length : Int) - i).toNat ∧ (0 ≤ i ∧ i ≤ (a.length : Int)) ∧ (∀ j : Nat, (j : Int) < i → at_ a j = at_ b j) ∧ gσ = mkS [(0, slPoint false a), (1, slPoint false b), (5, I i)] []) (((a.length : Int) - 0).toNat) ⟨0, rfl, (by omega), (by intro j hj; omega), rfl⟩ (fun gn gσ hI => ?_)
    obtain ⟨i, rfl, hi0, he0, rfl⟩ := hI
    refine aw_seq ?_
    refine aw_seq ?_
    by_cases h2 : i < (a.length : Int)
    · have hi : i.toNat < a.length := by omega
      have hib : i.toNat < b.length := by omega
      refine aw_reg [(3, .dec true)] [0, 1, 5, 14] [] [slPoint false a, slPoint false b, I i, Bv true] [] [i < (a.length : Int)] (by kernel_rfl) hB ⟨h2, trivial⟩ ?_
      refine ae_then ?_
      refine aw_true rfl ?_
      refine aw_skip ?_
      refine ae_then ?_
      refine aw_seq ?_
      refine aw_block ?_
      refine aw_seq ?_
      rcases Bool.eq_false_or_eq_true (same (at_ a i.toNat) (at_ b i.toNat)) with h3 | h3
      · have HEQ := h3
        refine aw_reg [(8, .call [(true, .agg [I ((at_ a i.toNat).X), I ((at_ a i.toNat).Y), I ((at_ a i.toNat).T)]), (true, .agg [I ((at_ b i.toNat).X), I ((at_ b i.toNat).Y), I ((at_ b i.toNat).T)])] true (Bv true))] [0, 1, 5, 26] [] [slPoint false a, slPoint false b, I i, Bv false] [] [(0 : Int) ≤ i ∧ i < (a.length : Int), (0 : Int) ≤ i ∧ i < (b.length : Int), Con Tryd.prog 69 [.agg [I ((at_ a i.toNat).X), I ((at_ a i.toNat).Y), I ((at_ a i.toNat).T)], .agg [I ((at_ b i.toNat).X), I ((at_ b i.toNat).Y), I ((at_ b i.toNat).T)]] true (Bv true) ∧ ((.agg [I ((at_ a i.toNat).X), I ((at_ a i.toNat).Y), I ((at_ a i.toNat).T)] : AV) = .agg [I ((at_ a i.toNat).X), I ((at_ a i.toNat).Y), I ((at_ a i.toNat).T)]) ∧ ((.agg [I ((at_ b i.toNat).X), I ((at_ b i.toNat).Y), I ((at_ b i.toNat).T)] : AV) = .agg [I ((at_ b i.toNat).X), I ((at_ b i.toNat).Y), I ((at_ b i.toNat).T)]) ∧ True] (by kernel_rfl) hB ⟨⟨(by omega), (by omega)⟩, ⟨(by omega), (by omega)⟩, ⟨(con_bool h3 (eqPoint_ok (at_ a i.toNat) (at_ b i.toNat))), rfl, rfl, trivial⟩, trivial⟩ ?_
        refine ae_then ?_
        refine aw_false rfl ?_
        refine aw_skip ?_
        refine ae_block 1 ?_
        refine ae_then ?_
        refine aw_reg [] [0, 1, 5] [] [slPoint false a, slPoint false b, I (i + 1)] [] [inR .i64 (i + 1)] (by kernel_rfl) hB ⟨(inR_i64 (by omega) (by omega)), trivial⟩ ?_
        exact ae_again _ (by omega) ⟨(i + 1), rfl, (by omega), (by intro j hj; by_cases ej : j = i.toNat; (subst ej; simpa [same] using HEQ); exact he0 j (by omega)), rfl⟩
      · refine aw_reg [(8, .call [(true, .agg [I ((at_ a i.toNat).X), I ((at_ a i.toNat).Y), I ((at_ a i.toNat).T)]), (true, .agg [I ((at_ b i.toNat).X), I ((at_ b i.toNat).Y), I ((at_ b i.toNat).T)])] true (Bv false))] [0, 1, 5, 26] [] [slPoint false a, slPoint false b, I i, Bv true] [] [(0 : Int) ≤ i ∧ i < (a.length : Int), (0 : Int) ≤ i ∧ i < (b.length : Int), Con Tryd.prog 69 [.agg [I ((at_ a i.toNat).X), I ((at_ a i.toNat).Y), I ((at_ a i.toNat).T)], .agg [I ((at_ b i.toNat).X), I ((at_ b i.toNat).Y), I ((at_ b i.toNat).T)]] true (Bv false) ∧ ((.agg [I ((at_ a i.toNat).X), I ((at_ a i.toNat).Y), I ((at_ a i.toNat).T)] : AV) = .agg [I ((at_ a i.toNat).X), I ((at_ a i.toNat).Y), I ((at_ a i.toNat).T)]) ∧ ((.agg [I ((at_ b i.toNat).X), I ((at_ b i.toNat).Y), I ((at_ b i.toNat).T)] : AV) = .agg [I ((at_ b i.toNat).X), I ((at_ b i.toNat).Y), I ((at_ b i.toNat).T)]) ∧ True] (by kernel_rfl) hB ⟨⟨(by omega), (by omega)⟩, ⟨(by omega), (by omega)⟩, ⟨(con_bool h3 (eqPoint_ok (at_ a i.toNat) (at_ b i.toNat))), rfl, rfl, trivial⟩, trivial⟩ ?_
        refine ae_then ?_
        refine aw_true rfl ?_
        refine aw_seq ?_
        refine aw_reg [] [4] [] [Bv false] [] [] (by kernel_rfl) hB trivial ?_
        refine ae_then ?_
        refine aw_ret ?_
        refine ae_ret_block (ae_ret_then (ae_ret_then (ae_ret_block (ae_ret_then ?_))))
        refine ae_ret hB (Bv false) (by kernel_rfl) (.inl (by first | (refine congrArg Bv (Eq.symm (decide_eq_false ?_)); intro e; subst e; simp_all [same]; done) | (exact congrArg Bv (Eq.symm (decide_eq_true hfin))))) rfl (fun _ => trivial)
    · have hfin : a = b := ext_at (by omega) (fun j hj => he0 j (by omega))
      refine aw_reg [(3, .dec false)] [0, 1, 5, 14] [] [slPoint false a, slPoint false b, I i, Bv false] [] [¬ (i < (a.length : Int))] (by kernel_rfl) hB ⟨h2, trivial⟩ ?_
      refine ae_then ?_
      refine aw_false rfl ?_
      refine aw_exit ?_
      refine ae_exit_then ?_
      refine ae_exit_then ?_
      refine ae_exit_same ?_
      refine ae_then ?_
      refine aw_seq ?_
      refine aw_reg [] [4] [] [Bv true] [] [] (by kernel_rfl) hB trivial ?_
      refine ae_then ?_
      refine aw_ret ?_
      refine ae_ret hB (Bv true) (by kernel_rfl) (.inl (by first | (refine congrArg Bv (Eq.symm (decide_eq_false ?_)); intro e; subst e; simp_all [same]; done) | (exact congrArg Bv (Eq.symm (decide_eq_true hfin))))) rfl (fun _ => trivial)
  · refine aw_reg [(4, .dec true)] [0, 1, 10] [] [slPoint false a, slPoint false b, Bv true] [] [(a.length : Int) ≠ (b.length : Int)] (by kernel_rfl) hB ⟨h1, trivial⟩ ?_
    refine ae_then ?_
    refine aw_true rfl ?_
    refine aw_seq ?_
    refine aw_reg [] [4] [] [Bv false] [] [] (by kernel_rfl) hB trivial ?_
    refine ae_then ?_
    refine aw_ret ?_
    refine ae_ret_then ?_
    refine ae_ret hB (Bv false) (by kernel_rfl) (.inl (by first | (refine congrArg Bv (Eq.symm (decide_eq_false ?_)); intro e; subst e; simp_all [same]; done) | (exact congrArg Bv (Eq.symm (decide_eq_true hfin))))) rfl (fun _ => trivial)


-- laws.eqStroke
theorem eqStroke_ok (a : Stroke) (b : Stroke) : Con Tryd.prog 26 [.agg [slPoint false a.Points], .agg [slPoint false b.Points]] true (Bv (same a b)) := by
  refine fn_ok (fn := Tryd.f26) (nt := 11) Tryd.func26 rfl rfl rfl rfl (by simp [taggedL, tagged, tagPoint]) fun B hB => ?_
  refine aw_lens (x := .agg [slPoint false a.Points]) 0 rfl (fun len_a => ?_)
  simp [LenOK, LenL, cPoint, fPoint, slPoint] at len_a
  refine aw_lens (x := .agg [slPoint false b.Points]) 1 rfl (fun len_b => ?_)
  simp [LenOK, LenL, cPoint, fPoint, slPoint] at len_b
  refine aw_seq ?_
  refine aw_reg [(0, .new 2), (1, .new 3)] [2, 3] [2, 3] [.ref 2 0, .ref 3 0] [some (.box [slPoint false a.Points]), some (.box [slPoint false b.Points])] [] (by kernel_rfl) hB trivial ?_
  refine ae_then ?_
  refine aw_seq ?_
  refine aw_seq ?_
  rcases Bool.eq_false_or_eq_true (same a.Points b.Points) with h1 | h1
  · refine aw_reg [(4, .call [(true, slPoint false a.Points), (true, slPoint false b.Points)] true (Bv true))] [10] [] [Bv false] [] [Con Tryd.prog 49 [slPoint false a.Points, slPoint false b.Points] true (Bv true) ∧ ((slPoint false a.Points : AV) = slPoint false a.Points) ∧ ((slPoint false b.Points : AV) = slPoint false b.Points) ∧ True] (by kernel_rfl) hB ⟨⟨(con_bool h1 (eqPointS_ok a.Points b.Points)), rfl, rfl, trivial⟩, trivial⟩ ?_
    refine ae_then ?_
    refine aw_false rfl ?_
    refine aw_skip ?_
    refine ae_then ?_
    refine aw_seq ?_
    refine aw_reg [] [4] [] [Bv true] [] [] (by kernel_rfl) hB trivial ?_
    refine ae_then ?_
    refine aw_ret ?_
    refine ae_ret hB (Bv true) (by kernel_rfl) (.inl (by first | (cases a; cases b; simp_all [same]; done) | (cases a; cases b; simp_all [same]; omega))) rfl (fun _ => trivial)
  · refine aw_reg [(4, .call [(true, slPoint false a.Points), (true, slPoint false b.Points)] true (Bv false))] [10] [] [Bv true] [] [Con Tryd.prog 49 [slPoint false a.Points, slPoint false b.Points] true (Bv false) ∧ ((slPoint false a.Points : AV) = slPoint false a.Points) ∧ ((slPoint false b.Points : AV) = slPoint false b.Points) ∧ True] (by kernel_rfl) hB ⟨⟨(con_bool h1 (eqPointS_ok a.Points b.Points)), rfl, rfl, trivial⟩, trivial⟩ ?_
    refine ae_then ?_
    refine aw_true rfl ?_
    refine aw_seq ?_
    refine aw_reg [] [4] [] [Bv false] [] [] (by kernel_rfl) hB trivial ?_
    refine ae_then ?_
    refine aw_ret ?_
    refine ae_ret_then ?_
    refine ae_ret hB (Bv false) (by kernel_rfl) (.inl (by first | (cases a; cases b; simp_all [same]; done) | (cases a; cases b; simp_all [same]; omega))) rfl (fun _ => trivial)


theorem same_self {α : Type} [DecidableEq α] (x : α) : same x x = true := by simp [same]

-- laws.FnExactEditOf
theorem fnExactEditOf_con (aL : CellRow) (aS : Stroke) (ok_aL : okCellRow aL) : Con Tryd.prog 7 [.agg [Sv aL.Text, I aL.X, I aL.Y, I aL.Cell], .agg [slPoint false aS.Points]] true (Bv true) := by
  refine fn_ok (fn := Tryd.f7) (nt := 52) Tryd.func7 rfl rfl rfl rfl (by simp [taggedL, tagged, tagPoint]) fun B hB => ?_
  refine aw_lens (x := .agg [slPoint false aS.Points]) 1 rfl (fun len_aS => ?_)
  simp [LenOK, LenL, cPoint, fPoint, slPoint] at len_aS
  refine aw_seq ?_
  refine aw_reg [(0, .new 2), (1, .new 3)] [2, 3] [2, 3] [.ref 2 0, .ref 3 0] [some (.box [Sv aL.Text, I aL.X, I aL.Y, I aL.Cell]), some (.box [slPoint false aS.Points])] [] (by kernel_rfl) hB trivial ?_
  refine ae_then ?_
  refine aw_seq ?_
  refine aw_reg [] [2, 3, 5] [2, 3] [.ref 2 0, .ref 3 0, I 1048576] [some (.box [Sv aL.Text, I aL.X, I aL.Y, I aL.Cell]), some (.box [slPoint false aS.Points])] [] (by kernel_rfl) hB trivial ?_
  refine ae_then ?_
  refine aw_seq ?_
  refine aw_reg [(2, .call [(true, .agg [Sv aL.Text, I aL.X, I aL.Y, I aL.Cell]), (true, I 1048576)] true (I (szTake 1048576 (bulkCellRow aL))))] [2, 3, 5] [2, 3] [.ref 2 0, .ref 3 0, I (szTake 1048576 (bulkCellRow aL))] [some (.box [Sv aL.Text, I aL.X, I aL.Y, I aL.Cell]), some (.box [slPoint false aS.Points])] [Con Tryd.prog 9 [.agg [Sv aL.Text, I aL.X, I aL.Y, I aL.Cell], I 1048576] true (I (szTake 1048576 (bulkCellRow aL))) ∧ ((.agg [Sv aL.Text, I aL.X, I aL.Y, I aL.Cell] : AV) = .agg [Sv aL.Text, I aL.X, I aL.Y, I aL.Cell]) ∧ ((I 1048576 : AV) = I 1048576) ∧ True] (by kernel_rfl) hB ⟨⟨(szCellRow_ok aL 1048576 (by omega) ok_aL), rfl, rfl, trivial⟩, trivial⟩ ?_
  refine ae_then ?_
  refine aw_seq ?_
  refine aw_seq ?_
  by_cases h1 : (szTake 1048576 (bulkCellRow aL)) < 0
  · refine aw_reg [(1, .dec true)] [2, 3, 5, 15] [2, 3] [.ref 2 0, .ref 3 0, I (szTake 1048576 (bulkCellRow aL)), Bv true] [some (.box [Sv aL.Text, I aL.X, I aL.Y, I aL.Cell]), some (.box [slPoint false aS.Points])] [(szTake 1048576 (bulkCellRow aL)) < 0] (by kernel_rfl) hB ⟨h1, trivial⟩ ?_
    refine ae_then ?_
    refine aw_true rfl ?_
    refine aw_seq ?_
    refine aw_reg [] [4] [] [Bv true] [] [] (by kernel_rfl) hB trivial ?_
    refine ae_then ?_
    refine aw_ret ?_
    refine ae_ret_then ?_
    refine ae_ret hB (Bv true) (by kernel_rfl) (.inl rfl) rfl (fun _ => trivial)
  · have eh1 := szTake_nn h1
    refine aw_reg [(1, .dec false)] [2, 3, 5, 15] [2, 3] [.ref 2 0, .ref 3 0, I (szTake 1048576 (bulkCellRow aL)), Bv false] [some (.box [Sv aL.Text, I aL.X, I aL.Y, I aL.Cell]), some (.box [slPoint false aS.Points])] [¬ ((szTake 1048576 (bulkCellRow aL)) < 0)] (by kernel_rfl) hB ⟨h1, trivial⟩ ?_
    refine ae_then ?_
    refine aw_false rfl ?_
    refine aw_skip ?_
    refine ae_then ?_
    refine aw_seq ?_
    refine aw_reg [(2, .call [(true, .agg [slPoint false aS.Points]), (true, I (szTake 1048576 (bulkCellRow aL)))] true (I (szTake (szTake 1048576 (bulkCellRow aL)) (bulkStroke aS))))] [2, 3, 5] [2, 3] [.ref 2 0, .ref 3 0, I (szTake (szTake 1048576 (bulkCellRow aL)) (bulkStroke aS))] [some (.box [Sv aL.Text, I aL.X, I aL.Y, I aL.Cell]), some (.box [slPoint false aS.Points])] [Con Tryd.prog 22 [.agg [slPoint false aS.Points], I (szTake 1048576 (bulkCellRow aL))] true (I (szTake (szTake 1048576 (bulkCellRow aL)) (bulkStroke aS))) ∧ ((.agg [slPoint false aS.Points] : AV) = .agg [slPoint false aS.Points]) ∧ ((I (szTake 1048576 (bulkCellRow aL)) : AV) = I (szTake 1048576 (bulkCellRow aL))) ∧ True] (by kernel_rfl) hB ⟨⟨(szStroke_ok aS (szTake 1048576 (bulkCellRow aL)) (by omega)), rfl, rfl, trivial⟩, trivial⟩ ?_
    refine ae_then ?_
    refine aw_seq ?_
    refine aw_seq ?_
    by_cases h2 : (szTake (szTake 1048576 (bulkCellRow aL)) (bulkStroke aS)) < 0
    · refine aw_reg [(1, .dec true)] [2, 3, 20] [2, 3] [.ref 2 0, .ref 3 0, Bv true] [some (.box [Sv aL.Text, I aL.X, I aL.Y, I aL.Cell]), some (.box [slPoint false aS.Points])] [(szTake (szTake 1048576 (bulkCellRow aL)) (bulkStroke aS)) < 0] (by kernel_rfl) hB ⟨h2, trivial⟩ ?_
      refine ae_then ?_
      refine aw_true rfl ?_
      refine aw_seq ?_
      refine aw_reg [] [4] [] [Bv true] [] [] (by kernel_rfl) hB trivial ?_
      refine ae_then ?_
      refine aw_ret ?_
      refine ae_ret_then ?_
      refine ae_ret hB (Bv true) (by kernel_rfl) (.inl rfl) rfl (fun _ => trivial)
    · have eh2 := szTake_nn h2
      refine aw_reg [(1, .dec false)] [2, 3, 20] [2, 3] [.ref 2 0, .ref 3 0, Bv false] [some (.box [Sv aL.Text, I aL.X, I aL.Y, I aL.Cell]), some (.box [slPoint false aS.Points])] [¬ ((szTake (szTake 1048576 (bulkCellRow aL)) (bulkStroke aS)) < 0)] (by kernel_rfl) hB ⟨h2, trivial⟩ ?_
      refine ae_then ?_
      refine aw_false rfl ?_
      refine aw_skip ?_
      refine ae_then ?_
      refine aw_seq ?_
      refine aw_reg [(1, .call [(true, .agg [Sv aL.Text, I aL.X, I aL.Y, I aL.Cell])] true (.agg [Sv aL.Text, I aL.X, I aL.Y, I aL.Cell])), (3, .call [(true, .agg [slPoint false aS.Points])] true (.agg [slPoint true aS.Points])), (4, .call [(true, .agg [Sv aL.Text, I aL.X, I aL.Y, I aL.Cell]), (false, .agg [slPoint false aS.Points])] true (.tup [.agg [I (((editOfR aL aS).1).Kind), I (((editOfR aL aS).1).From), I (((editOfR aL aS).1).To)], I ((editOfR aL aS).2)])), (8, .new 6)] [2, 3, 6, 7] [2, 3, 6] [.ref 2 0, .ref 3 0, .ref 6 0, I ((editOfR aL aS).2)] [some (.box [Sv aL.Text, I aL.X, I aL.Y, I aL.Cell]), some (.box [slPoint false aS.Points]), some (.box [I (((editOfR aL aS).1).Kind), I (((editOfR aL aS).1).From), I (((editOfR aL aS).1).To)])] [Con Tryd.prog 11 [.agg [Sv aL.Text, I aL.X, I aL.Y, I aL.Cell]] true (.agg [Sv aL.Text, I aL.X, I aL.Y, I aL.Cell]) ∧ ((.agg [Sv aL.Text, I aL.X, I aL.Y, I aL.Cell] : AV) = .agg [Sv aL.Text, I aL.X, I aL.Y, I aL.Cell]) ∧ True, Con Tryd.prog 24 [.agg [slPoint false aS.Points]] true (.agg [slPoint true aS.Points]) ∧ ((.agg [slPoint false aS.Points] : AV) = .agg [slPoint false aS.Points]) ∧ True, Con Tryd.prog 23 [.agg [Sv aL.Text, I aL.X, I aL.Y, I aL.Cell], .agg [slPoint false aS.Points]] true (.tup [.agg [I (((editOfR aL aS).1).Kind), I (((editOfR aL aS).1).From), I (((editOfR aL aS).1).To)], I ((editOfR aL aS).2)]) ∧ ((.agg [Sv aL.Text, I aL.X, I aL.Y, I aL.Cell] : AV) = .agg [Sv aL.Text, I aL.X, I aL.Y, I aL.Cell]) ∧ (((false = true → true = true) ∧ 3 = 3 ∧ aS.Points.length = aS.Points.length ∧ ∀ i, i < aS.Points.length → (fPoint aS.Points) i = (fPoint aS.Points) i ∨ (AV.idsL ((fPoint aS.Points) i) = [] ∧ leL (fun _ => none) false ((fPoint aS.Points) i) ((fPoint aS.Points) i))) ∧ ([] : List AV) = []) ∧ True] (by kernel_rfl) hB ⟨⟨(toCellRow_ok aL (by omega)), rfl, trivial⟩, ⟨(toStroke_ok aS (by omega)), rfl, trivial⟩, ⟨(specEditOf_ok aL aS ok_aL), rfl, ⟨⟨(fun h => by cases h), rfl, rfl, fun i _ => .inl rfl⟩, rfl⟩, trivial⟩, trivial⟩ ?_
      refine ae_then ?_
      refine aw_seq ?_
      refine aw_reg [(1, .call [(true, .agg [slPoint false aS.Points])] true (.agg [slPoint true aS.Points])), (2, .new 8)] [2, 3, 6, 7, 8] [2, 3, 6, 8] [.ref 2 0, .ref 3 0, .ref 6 0, I ((editOfR aL aS).2), .ref 8 0] [some (.box [Sv aL.Text, I aL.X, I aL.Y, I aL.Cell]), some (.box [slPoint false aS.Points]), some (.box [I (((editOfR aL aS).1).Kind), I (((editOfR aL aS).1).From), I (((editOfR aL aS).1).To)]), some (.box [slPoint true aS.Points])] [Con Tryd.prog 24 [.agg [slPoint false aS.Points]] true (.agg [slPoint true aS.Points]) ∧ ((.agg [slPoint false aS.Points] : AV) = .agg [slPoint false aS.Points]) ∧ True] (by kernel_rfl) hB ⟨⟨(toStroke_ok aS (by omega)), rfl, trivial⟩, trivial⟩ ?_
      refine ae_then ?_
      refine aw_seq ?_
      refine aw_reg [(1, .call [(true, .agg [Sv aL.Text, I aL.X, I aL.Y, I aL.Cell])] true (.agg [Sv aL.Text, I aL.X, I aL.Y, I aL.Cell])), (3, .call [(true, .agg [Sv aL.Text, I aL.X, I aL.Y, I aL.Cell]), (false, .agg [slPoint false aS.Points])] true (.tup [.agg [I (((editOfR aL aS).1).Kind), I (((editOfR aL aS).1).From), I (((editOfR aL aS).1).To)], I ((editOfR aL aS).2)])), (7, .new 9)] [3, 6, 7, 8, 9, 10] [3, 6, 8, 9] [.ref 3 0, .ref 6 0, I ((editOfR aL aS).2), .ref 8 0, .ref 9 0, I ((editOfR aL aS).2)] [some (.box [slPoint false aS.Points]), some (.box [I (((editOfR aL aS).1).Kind), I (((editOfR aL aS).1).From), I (((editOfR aL aS).1).To)]), some (.box [slPoint true aS.Points]), some (.box [I (((editOfR aL aS).1).Kind), I (((editOfR aL aS).1).From), I (((editOfR aL aS).1).To)])] [Con Tryd.prog 11 [.agg [Sv aL.Text, I aL.X, I aL.Y, I aL.Cell]] true (.agg [Sv aL.Text, I aL.X, I aL.Y, I aL.Cell]) ∧ ((.agg [Sv aL.Text, I aL.X, I aL.Y, I aL.Cell] : AV) = .agg [Sv aL.Text, I aL.X, I aL.Y, I aL.Cell]) ∧ True, Con Tryd.prog 25 [.agg [Sv aL.Text, I aL.X, I aL.Y, I aL.Cell], .agg [slPoint false aS.Points]] true (.tup [.agg [I (((editOfR aL aS).1).Kind), I (((editOfR aL aS).1).From), I (((editOfR aL aS).1).To)], I ((editOfR aL aS).2)]) ∧ ((.agg [Sv aL.Text, I aL.X, I aL.Y, I aL.Cell] : AV) = .agg [Sv aL.Text, I aL.X, I aL.Y, I aL.Cell]) ∧ (((false = true → true = true) ∧ 3 = 3 ∧ aS.Points.length = aS.Points.length ∧ ∀ i, i < aS.Points.length → (fPoint aS.Points) i = (fPoint aS.Points) i ∨ (AV.idsL ((fPoint aS.Points) i) = [] ∧ leL (fun _ => none) false ((fPoint aS.Points) i) ((fPoint aS.Points) i))) ∧ ([] : List AV) = []) ∧ True] (by kernel_rfl) hB ⟨⟨(toCellRow_ok aL (by omega)), rfl, trivial⟩, ⟨(implEditOf_ok aL aS ok_aL), rfl, ⟨⟨(fun h => by cases h), rfl, rfl, fun i _ => .inl rfl⟩, rfl⟩, trivial⟩, trivial⟩ ?_
      refine ae_then ?_
      refine aw_seq ?_
      refine aw_seq ?_
      refine aw_reg [(2, .call [(true, .agg [I (((editOfR aL aS).1).Kind), I (((editOfR aL aS).1).From), I (((editOfR aL aS).1).To)]), (true, .agg [I (((editOfR aL aS).1).Kind), I (((editOfR aL aS).1).From), I (((editOfR aL aS).1).To)])] true (Bv true)), (7, .dec false)] [3, 8, 46] [3, 8] [.ref 3 0, .ref 8 0, Bv false] [some (.box [slPoint false aS.Points]), some (.box [slPoint true aS.Points])] [Con Tryd.prog 21 [.agg [I (((editOfR aL aS).1).Kind), I (((editOfR aL aS).1).From), I (((editOfR aL aS).1).To)], .agg [I (((editOfR aL aS).1).Kind), I (((editOfR aL aS).1).From), I (((editOfR aL aS).1).To)]] true (Bv true) ∧ ((.agg [I (((editOfR aL aS).1).Kind), I (((editOfR aL aS).1).From), I (((editOfR aL aS).1).To)] : AV) = .agg [I (((editOfR aL aS).1).Kind), I (((editOfR aL aS).1).From), I (((editOfR aL aS).1).To)]) ∧ ((.agg [I (((editOfR aL aS).1).Kind), I (((editOfR aL aS).1).From), I (((editOfR aL aS).1).To)] : AV) = .agg [I (((editOfR aL aS).1).Kind), I (((editOfR aL aS).1).From), I (((editOfR aL aS).1).To)]) ∧ True, ¬ (((editOfR aL aS).2) ≠ ((editOfR aL aS).2))] (by kernel_rfl) hB ⟨⟨(con_bool (same_self _) (eqEdit_ok ((editOfR aL aS).1) ((editOfR aL aS).1))), rfl, rfl, trivial⟩, (fun hq => hq rfl), trivial⟩ ?_
      refine ae_then ?_
      refine aw_false rfl ?_
      refine aw_skip ?_
      refine ae_then ?_
      refine aw_seq ?_
      refine aw_seq ?_
      refine aw_reg [(2, .call [(true, .agg [slPoint false aS.Points])] true (.agg [slPoint true aS.Points])), (3, .call [(false, .agg [slPoint false aS.Points]), (false, .agg [slPoint false aS.Points])] true (Bv true))] [51] [] [Bv false] [] [Con Tryd.prog 24 [.agg [slPoint false aS.Points]] true (.agg [slPoint true aS.Points]) ∧ ((.agg [slPoint false aS.Points] : AV) = .agg [slPoint false aS.Points]) ∧ True, Con Tryd.prog 26 [.agg [slPoint false aS.Points], .agg [slPoint false aS.Points]] true (Bv true) ∧ (((false = true → true = true) ∧ 3 = 3 ∧ aS.Points.length = aS.Points.length ∧ ∀ i, i < aS.Points.length → (fPoint aS.Points) i = (fPoint aS.Points) i ∨ (AV.idsL ((fPoint aS.Points) i) = [] ∧ leL (fun _ => none) false ((fPoint aS.Points) i) ((fPoint aS.Points) i))) ∧ ([] : List AV) = []) ∧ (((false = true → true = true) ∧ 3 = 3 ∧ aS.Points.length = aS.Points.length ∧ ∀ i, i < aS.Points.length → (fPoint aS.Points) i = (fPoint aS.Points) i ∨ (AV.idsL ((fPoint aS.Points) i) = [] ∧ leL (fun _ => none) false ((fPoint aS.Points) i) ((fPoint aS.Points) i))) ∧ ([] : List AV) = []) ∧ True] (by kernel_rfl) hB ⟨⟨(toStroke_ok aS (by omega)), rfl, trivial⟩, ⟨(con_bool (same_self _) (eqStroke_ok aS aS)), ⟨⟨(fun h => by cases h), rfl, rfl, fun i _ => .inl rfl⟩, rfl⟩, ⟨⟨(fun h => by cases h), rfl, rfl, fun i _ => .inl rfl⟩, rfl⟩, trivial⟩, trivial⟩ ?_
      refine ae_then ?_
      refine aw_false rfl ?_
      refine aw_skip ?_
      refine ae_then ?_
      refine aw_seq ?_
      refine aw_reg [] [4] [] [Bv true] [] [] (by kernel_rfl) hB trivial ?_
      refine ae_then ?_
      refine aw_ret ?_
      refine ae_ret hB (Bv true) (by kernel_rfl) (.inl rfl) rfl (fun _ => trivial)


/-! ### the row -/

def okOCellRow (x : CellRow) : Prop := (x.Text.size ≤ 9223372036854775807) ∧ (inR .i64 x.X) ∧ (inR .i64 x.Y) ∧ (inR .i64 x.Cell)

theorem opens_t23 : OpensA Tryd.prog 23 (cCellRow) okOCellRow := by
  intro H enc w base spare held fuel cs y h
  obtain ⟨ys, n, _, _, hlen, hyl, hf⟩ := DataW.trod_struct Tryd.underlying23 h
  obtain ⟨x0, r0, o0⟩ := (opensA_str Tryd.underlying9) enc w base spare held _ _ _ ((hf 0 _ rfl).trans (List.getElem?_eq_getElem (by rw [hyl]; decide)))
  obtain ⟨x1, r1, o1⟩ := (opensA_int Tryd.underlying2) enc w base spare held _ _ _ ((hf 1 _ rfl).trans (List.getElem?_eq_getElem (by rw [hyl]; decide)))
  obtain ⟨x2, r2, o2⟩ := (opensA_int Tryd.underlying2) enc w base spare held _ _ _ ((hf 2 _ rfl).trans (List.getElem?_eq_getElem (by rw [hyl]; decide)))
  obtain ⟨x3, r3, o3⟩ := (opensA_int Tryd.underlying2) enc w base spare held _ _ _ ((hf 3 _ rfl).trans (List.getElem?_eq_getElem (by rw [hyl]; decide)))
  have hlen : cs.length = 4 := hlen.trans (by kernel_rfl)
  exact ⟨⟨x0, x1, x2, x3⟩, RelTL.whole (n := 4) (RelTL.app (a := 3) (b := 1) (RelTL.app (a := 2) (b := 1) (RelTL.app (a := 1) (b := 1) r0 (by kernel_rfl) r1 (by kernel_rfl) (by kernel_rfl) (by omega)) rfl r2 (by kernel_rfl) (by kernel_rfl) (by omega)) rfl r3 (by kernel_rfl) (by kernel_rfl) (by omega)) hlen rfl, o0, o1, o2, o3⟩

def okOPoint (x : Point) : Prop := (inR .i64 x.X) ∧ (inR .i64 x.Y) ∧ (inR .i64 x.T)

theorem opens_t94 : OpensA Tryd.prog 94 (cPoint) okOPoint := by
  intro H enc w base spare held fuel cs y h
  obtain ⟨ys, n, _, _, hlen, hyl, hf⟩ := DataW.trod_struct Tryd.underlying94 h
  obtain ⟨x0, r0, o0⟩ := (opensA_int Tryd.underlying2) enc w base spare held _ _ _ ((hf 0 _ rfl).trans (List.getElem?_eq_getElem (by rw [hyl]; decide)))
  obtain ⟨x1, r1, o1⟩ := (opensA_int Tryd.underlying2) enc w base spare held _ _ _ ((hf 1 _ rfl).trans (List.getElem?_eq_getElem (by rw [hyl]; decide)))
  obtain ⟨x2, r2, o2⟩ := (opensA_int Tryd.underlying2) enc w base spare held _ _ _ ((hf 2 _ rfl).trans (List.getElem?_eq_getElem (by rw [hyl]; decide)))
  have hlen : cs.length = 3 := hlen.trans (by kernel_rfl)
  exact ⟨⟨x0, x1, x2⟩, RelTL.whole (n := 3) (RelTL.app (a := 2) (b := 1) (RelTL.app (a := 1) (b := 1) r0 (by kernel_rfl) r1 (by kernel_rfl) (by kernel_rfl) (by omega)) rfl r2 (by kernel_rfl) (by kernel_rfl) (by omega)) hlen rfl, o0, o1, o2⟩

theorem opens_t43 : OpensA Tryd.prog 43 (cLPoint false) (fun xs => ∀ y ∈ xs, okOPoint y) :=
  opensA_slice (c := cPoint) (sz := 3) Tryd.underlying43 (by kernel_rfl) (by decide) (fun x => ⟨rfl, by simp [oneA, cI, cPoint]⟩) (opens_t94)

def okOStroke (x : Stroke) : Prop := (∀ y ∈ x.Points, okOPoint y)

theorem opens_t45 : OpensA Tryd.prog 45 (cStroke false) okOStroke := by
  intro H enc w base spare held fuel cs y h
  obtain ⟨ys, n, _, _, hlen, hyl, hf⟩ := DataW.trod_struct Tryd.underlying45 h
  obtain ⟨x0, r0, o0⟩ := (opens_t43) enc w base spare held _ _ _ ((hf 0 _ rfl).trans (List.getElem?_eq_getElem (by rw [hyl]; decide)))
  have hlen : cs.length = 1 := hlen.trans (by kernel_rfl)
  exact ⟨⟨x0⟩, RelTL.whole (n := 1) (show RelTL w _ _ ((cs.drop 0).take 1) from (by have e : Tryd.prog.cellsOf 43 = 1 := (by kernel_rfl); rw [← e]; exact r0)) hlen rfl, o0⟩

namespace fnExactEditOf
set_option maxRecDepth 100000 in
theorem lifted (os : Os) (started : os.Started) (H : Type) (enc : TypeId × Value → H) :
    ReturnsInHanded {} Tryd.checked os 7 .any (fun w args => (Rows.fnExactEditOfSpec.pre enc Tryd.prog Tryd.f7 Rows.fnExactEditOfRow.domain false w args ∧ laidMetH Tryd.prog Rows.fnExactEditOfRow.laid w) ∧ sizedMet enc Tryd.prog Tryd.f7 (OpenSpec.ofChange Rows.fnExactEditOfSpec) false w args)
      (Rows.fnExactEditOfSpec.post enc Tryd.prog Tryd.f7 false true false false) := by
  refine returnsInHanded_of_change_and (C := Tryd.checked) (X := fun w _ => laidMetH Tryd.prog Rows.fnExactEditOfRow.laid w) (fun _ _ _ hh h => h.of_heap hh) Tryd.own started (by kernel_rfl) Tryd.func7
    (ChangeSpec.witness_shaped (enc := enc) (C := Tryd.checked) (os := os) (X := fun w _ => laidMetH Tryd.prog Rows.fnExactEditOfRow.laid w) false (World.laidAll Tryd.prog os Rows.fnExactEditOfRow.laid) #[.agg #[.string ⟨#[]⟩, .int .i64 0, .int .i64 0, .int .i64 0], .agg #[.slice none 0 0]] 8 (World.laidAll_os _ _ _)
      (World.shaped_of_ZipB (by kernel_rfl) (by kernel_rfl)) (by kernel_rfl) (by kernel_rfl) (by kernel_rfl)
      (by rw [MakeChecks.laidMetH_plain _ _ _ (by kernel_rfl)]; exact laidMet_laidAll _ (by kernel_rfl) (by kernel_rfl))) ?_
  intro W base args ds gs before hval0 hW hcnd hsz hL _
  have hW' := hW
  obtain ⟨p, q, hA0, hV, rfl, hfz, hnd⟩ := hW
  have hval : ∀ (j : Nat) t v, Tryd.f7.params[j]? = some t → args[j]? = some v → Value.okWide Tryd.prog W .any base t v := hval0
  have hA : DataW.TrodAll enc Tryd.prog W 0 (fun _ => true) true Tryd.f7.params.toList args.toList ds p := hA0
  rw [Tryd.params7] at hA hval
  obtain ⟨v0, vs0, d0, ds0, p0, q0, hargs, rfl, rfl, h0, r0⟩ := trodAll_cons hA
  obtain ⟨v1, vs1, d1, ds1, p1, q1, rfl, rfl, rfl, h1, r1⟩ := trodAll_cons r0
  obtain ⟨rfl, rfl, rfl⟩ := trodAll_nil r1
  obtain rfl : args = #[v0, v1] := args_eq hargs
  obtain ⟨rfl, rfl⟩ := trodVars_none hV
  obtain ⟨fuel0, hf0⟩ := h0
  obtain ⟨cs0, rfl⟩ : ∃ cs, v0 = .agg cs := by
    obtain ⟨cs, h, _⟩ := okWide_struct Tryd.underlying23 (hval 0 23 v0 rfl rfl)
    exact ⟨cs, h⟩
  obtain ⟨x0, rx0, ok0⟩ := (opens_t23) enc W 0 _ _ _ _ _ hf0
  obtain ⟨fuel1, hf1⟩ := h1
  obtain ⟨cs1, rfl⟩ : ∃ cs, v1 = .agg cs := by
    obtain ⟨cs, h, _⟩ := okWide_struct Tryd.underlying45 (hval 1 45 v1 rfl rfl)
    exact ⟨cs, h⟩
  obtain ⟨x1, rx1, ok1⟩ := (opens_t45) enc W 0 _ _ _ _ _ hf1
  refine (walk_of (fnExactEditOf_con x0 x1 ok0.1) (RelTL.cons (relTL_agg rx0) (RelTL.cons (relTL_agg rx1) RelTL.nil))).mono fun e W1 ⟨he, hb⟩ => ?_
  subst he
  exact ⟨_, rfl, law_post Tryd.laidOut rfl Tryd.underlying4 (of_decide_eq_true (by kernel_rfl)) rfl hW' hb rfl⟩

theorem over : Rows.fnExactEditOfRow.holds Tryd.pinned (OpenSpec.ofChange Rows.fnExactEditOfSpec) :=
  OpenClaim.holds_of_wide 7 Tryd.f7 rfl rfl rfl rfl rfl rfl rfl ⟨rfl, rfl, rfl, rfl, rfl⟩ rfl rfl rfl rfl rfl (by kernel_rfl) Tryd.func7 (by kernel_rfl)
    (of_decide_eq_true (by kernel_rfl)) (by unfold Func.isWrapper; first | (rw [if_pos (by decide +kernel)]; kernel_rfl) | (rw [if_neg (by decide +kernel)]; exact ⟨rfl, rfl⟩))
    (fun os started H enc _ => lifted os started H enc)

theorem proved : Rows.FnExactEditOfCardSaid :=
  Claim7.holds_tied_plain_at .later [] [.data, .pinned] true (true, "3d85031d4e7652fe12aee05d9dc01959ff45425cfa39b8ff73c24344072cdb05") false over (fun _ h => by cases h) (by kernel_rfl) (fun _ h => by cases h) fnExactEditOf_row_tie rfl ⟨rfl, rfl⟩ (by kernel_rfl) rfl
    (fun f fn hf hfn => by
      obtain rfl : f = 7 := Option.some.inj ((show Tryd.prog.funcNamed "loop.example/g00918/laws.FnExactEditOf" = some 7 by kernel_rfl).symm.trans hf) |>.symm
      obtain rfl : fn = Tryd.f7 := (Option.some.inj (Tryd.func7.symm.trans hfn)).symm
      exact ⟨by kernel_rfl, fun j t ht => by
        rw [Tryd.params7] at ht
        have hm : t ∈ [23, 45] := by simpa using Array.mem_of_getElem? ht
        have hall : ([23, 45].all fun u => !Tryd.prog.wantsStandIn u) = true := by kernel_rfl
        exact (show Tryd.prog.wantsStandIn t = false by simpa using List.all_eq_true.1 hall t hm)⟩)
    (by kernel_rfl)
#print axioms proved
end fnExactEditOf
end Go.Proofs.YtmchblafmhpegaaDoor.Ax
