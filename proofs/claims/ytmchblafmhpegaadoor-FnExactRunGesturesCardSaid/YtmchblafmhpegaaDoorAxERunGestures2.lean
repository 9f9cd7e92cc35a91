/- Contracts that the statement FnExactRunGestures reaches, part 2. No conditions. -/
import Derived.Test.YtmchblafmhpegaaDoorAxERunGestures1
import Derived.LaidMore
import Derived.Lay
import Derived.OpenShut
import Derived.SevenTiedAt
import Derived.Shelf.Strings.SlTrimAscii
import Derived.Stop.Joined
namespace Go.Proofs.YtmchblafmhpegaaDoor.Ax
open Go.RowKit Go.ChangeShapes Go.WideShapes
set_option linter.unusedVariables false
set_option linter.unusedSimpArgs false


-- spec.l23Span
theorem l23Span_ok (l : CellRow) (b : Box) (hr0 : okRow l = true) (hb : (0 ≤ b.X1 ∧ b.X1 ≤ 4095) ∧ 0 ≤ b.X2 ∧ b.X2 ≤ 4095) : Con Tryd.prog 57 [.ptr false [Sv l.Text, I l.X, I l.Y, I l.Cell], .agg [I b.X1, I b.Y1, I b.X2, I b.Y2]] true (.tup [I ((spanS l b l.Text.size).1), I ((spanS l b l.Text.size).2)]) := by
  have hr := okRow_iff.1 hr0
  refine fn_ok (fn := Tryd.f57) (nt := 49) Tryd.func57 rfl rfl rfl rfl (by simp [taggedL, tagged]) fun B hB => ?_
  refine aw_seq ?_
  refine aw_reg [(0, .new 3)] [0, 3] [3] [.ptr false [Sv l.Text, I l.X, I l.Y, I l.Cell], .ref 3 0] [some (.box [I b.X1, I b.Y1, I b.X2, I b.Y2])] [] (by kernel_rfl) hB trivial ?_
  refine ae_then ?_
  refine aw_seq ?_
  refine aw_reg [] [0, 3, 6] [3] [.ptr false [Sv l.Text, I l.X, I l.Y, I l.Cell], .ref 3 0, I 0] [some (.box [I b.X1, I b.Y1, I b.X2, I b.Y2])] [] (by kernel_rfl) hB trivial ?_
  refine ae_then ?_
  refine aw_seq ?_
  refine aw_reg [] [0, 3, 6, 7] [3] [.ptr false [Sv l.Text, I l.X, I l.Y, I l.Cell], .ref 3 0, I 0, I 0] [some (.box [I b.X1, I b.Y1, I b.X2, I b.Y2])] [] (by kernel_rfl) hB trivial ?_
  refine ae_then ?_
  refine aw_seq ?_
  refine aw_seq ?_
  refine aw_reg [] [0, 3, 6, 7, 8] [3] [.ptr false [Sv l.Text, I l.X, I l.Y, I l.Cell], .ref 3 0, I 0, I 0, I 0] [some (.box [I b.X1, I b.Y1, I b.X2, I b.Y2])] [] (by kernel_rfl) hB trivial ?_
  refine ae_then ?_
  refine aw_block ?_
  refine aw_loop (fun gn gσ => ∃ (fr_ : Int) (to_ : Int) (k : Int), gn = ((l.Text.size : Int) - k).toNat ∧ (0 ≤ k ∧ k ≤ (l.Text.size : Int)) ∧ (fr_ = (spanS l b k.toNat).1) ∧ (to_ = (spanS l b k.toNat).2) ∧ (0 ≤ to_ ∧ to_ ≤ k) ∧ gσ = mkS [(0, .ptr false [Sv l.Text, I l.X, I l.Y, I l.Cell]), (3, .ref 3 0), (6, I fr_), (7, I to_), (8, I k)] [(3, .box [I b.X1, I b.Y1, I b.X2, I b.Y2])]) (((l.Text.size : Int) - 0).toNat) ⟨0, 0, 0, rfl, (by omega), (by rfl), (by rfl), (by omega), rfl⟩ (fun gn gσ hI => ?_)
  obtain ⟨fr_, to_, k, rfl, hi0, hs1, hs2, hs3, rfl⟩ := hI
  refine aw_seq ?_
  refine aw_seq ?_
  by_cases h1 : k < (l.Text.size : Int)
  · have hkb := mul60 (a := k) (c := l.Cell) (by omega) (by omega)
    have hme := mid_eq k l.Cell
    have he : (2 * (l.X + k * l.Cell)) + l.Cell = 2 * l.X + (2 * k + 1) * l.Cell := by omega
    refine aw_reg [(6, .dec true)] [0, 3, 6, 7, 8, 16] [3] [.ptr false [Sv l.Text, I l.X, I l.Y, I l.Cell], .ref 3 0, I fr_, I to_, I k, Bv true] [some (.box [I b.X1, I b.Y1, I b.X2, I b.Y2])] [k < (l.Text.size : Int)] (by kernel_rfl) hB ⟨h1, trivial⟩ ?_
    refine ae_then ?_
    refine aw_true rfl ?_
    refine aw_skip ?_
    refine ae_then ?_
    refine aw_seq ?_
    refine aw_block ?_
    refine aw_seq ?_
    refine aw_reg [] [0, 3, 6, 7, 8, 9] [3] [.ptr false [Sv l.Text, I l.X, I l.Y, I l.Cell], .ref 3 0, I fr_, I to_, I k, I ((2 * l.X) + (((2 * k) + 1) * l.Cell))] [some (.box [I b.X1, I b.Y1, I b.X2, I b.Y2])] [inR .i64 (2 * l.X), inR .i64 (2 * k), inR .i64 ((2 * k) + 1), inR .i64 (((2 * k) + 1) * l.Cell), inR .i64 ((2 * l.X) + (((2 * k) + 1) * l.Cell))] (by kernel_rfl) hB ⟨(inR_i64 (by omega) (by omega)), (inR_i64 (by omega) (by omega)), (inR_i64 (by omega) (by omega)), (inR_i64 (by omega) (by omega)), (inR_i64 (by omega) (by omega)), trivial⟩ ?_
    refine ae_then ?_
    refine aw_seq ?_
    refine aw_seq ?_
    rcases Bool.eq_false_or_eq_true (inB ((2 * l.X) + (((2 * k) + 1) * l.Cell)) (2 * b.X1) (2 * b.X2)) with h2 | h2
    · refine aw_reg [(7, .call [(true, I ((2 * l.X) + (((2 * k) + 1) * l.Cell))), (true, I (2 * b.X1)), (true, I (2 * b.X2))] true (Bv true))] [0, 3, 6, 7, 8, 41] [3] [.ptr false [Sv l.Text, I l.X, I l.Y, I l.Cell], .ref 3 0, I fr_, I to_, I k, Bv false] [some (.box [I b.X1, I b.Y1, I b.X2, I b.Y2])] [inR .i64 (2 * b.X1), inR .i64 (2 * b.X2), Con Tryd.prog 36 [I ((2 * l.X) + (((2 * k) + 1) * l.Cell)), I (2 * b.X1), I (2 * b.X2)] true (Bv true) ∧ ((I ((2 * l.X) + (((2 * k) + 1) * l.Cell)) : AV) = I ((2 * l.X) + (((2 * k) + 1) * l.Cell))) ∧ ((I (2 * b.X1) : AV) = I (2 * b.X1)) ∧ ((I (2 * b.X2) : AV) = I (2 * b.X2)) ∧ True] (by kernel_rfl) hB ⟨(inR_i64 (by omega) (by omega)), (inR_i64 (by omega) (by omega)), ⟨(con_bool h2 (l00In_ok ((2 * l.X) + (((2 * k) + 1) * l.Cell)) (2 * b.X1) (2 * b.X2))), rfl, rfl, rfl, trivial⟩, trivial⟩ ?_
      refine ae_then ?_
      refine aw_false rfl ?_
      refine aw_skip ?_
      refine ae_then ?_
      refine aw_seq ?_
      refine aw_seq ?_
      by_cases h3 : to_ = 0
      · refine aw_reg [(1, .dec true)] [0, 3, 6, 8, 43] [3] [.ptr false [Sv l.Text, I l.X, I l.Y, I l.Cell], .ref 3 0, I fr_, I k, Bv true] [some (.box [I b.X1, I b.Y1, I b.X2, I b.Y2])] [to_ = 0] (by kernel_rfl) hB ⟨h3, trivial⟩ ?_
        refine ae_then ?_
        refine aw_true rfl ?_
        refine aw_reg [] [0, 3, 6, 8] [3] [.ptr false [Sv l.Text, I l.X, I l.Y, I l.Cell], .ref 3 0, I k, I k] [some (.box [I b.X1, I b.Y1, I b.X2, I b.Y2])] [] (by kernel_rfl) hB trivial ?_
        refine ae_then ?_
        refine aw_reg [] [0, 3, 6, 7, 8] [3] [.ptr false [Sv l.Text, I l.X, I l.Y, I l.Cell], .ref 3 0, I k, I (k + 1), I k] [some (.box [I b.X1, I b.Y1, I b.X2, I b.Y2])] [inR .i64 (k + 1)] (by kernel_rfl) hB ⟨(inR_i64 (by omega) (by omega)), trivial⟩ ?_
        refine ae_block 1 ?_
        refine ae_then ?_
        refine aw_reg [] [0, 3, 6, 7, 8] [3] [.ptr false [Sv l.Text, I l.X, I l.Y, I l.Cell], .ref 3 0, I k, I (k + 1), I (k + 1)] [some (.box [I b.X1, I b.Y1, I b.X2, I b.Y2])] [inR .i64 (k + 1)] (by kernel_rfl) hB ⟨(inR_i64 (by omega) (by omega)), trivial⟩ ?_
        exact ae_again _ (by omega) ⟨k, (k + 1), (k + 1), rfl, (by omega), (by first | (rw [spanS_yes hi0.1 (by assumption), ← hs1, ← hs2]; first | (simp only [if_pos (by assumption : to_ = 0)]; done) | (simp only [if_neg (by assumption : ¬ to_ = 0)]; done)) | (rw [spanS_no hi0.1 (by assumption), ← hs1])), (by first | (rw [spanS_yes hi0.1 (by assumption)]; done) | (rw [spanS_no hi0.1 (by assumption), ← hs2])), (by omega), rfl⟩
      · refine aw_reg [(1, .dec false)] [0, 3, 6, 8, 43] [3] [.ptr false [Sv l.Text, I l.X, I l.Y, I l.Cell], .ref 3 0, I fr_, I k, Bv false] [some (.box [I b.X1, I b.Y1, I b.X2, I b.Y2])] [¬ (to_ = 0)] (by kernel_rfl) hB ⟨h3, trivial⟩ ?_
        refine ae_then ?_
        refine aw_false rfl ?_
        refine aw_skip ?_
        refine ae_then ?_
        refine aw_reg [] [0, 3, 6, 7, 8] [3] [.ptr false [Sv l.Text, I l.X, I l.Y, I l.Cell], .ref 3 0, I fr_, I (k + 1), I k] [some (.box [I b.X1, I b.Y1, I b.X2, I b.Y2])] [inR .i64 (k + 1)] (by kernel_rfl) hB ⟨(inR_i64 (by omega) (by omega)), trivial⟩ ?_
        refine ae_block 1 ?_
        refine ae_then ?_
        refine aw_reg [] [0, 3, 6, 7, 8] [3] [.ptr false [Sv l.Text, I l.X, I l.Y, I l.Cell], .ref 3 0, I fr_, I (k + 1), I (k + 1)] [some (.box [I b.X1, I b.Y1, I b.X2, I b.Y2])] [inR .i64 (k + 1)] (by kernel_rfl) hB ⟨(inR_i64 (by omega) (by omega)), trivial⟩ ?_
        exact ae_again _ (by omega) ⟨fr_, (k + 1), (k + 1), rfl, (by omega), (by first | (rw [spanS_yes hi0.1 (by assumption), ← hs1, ← hs2]; first | (simp only [if_pos (by assumption : to_ = 0)]; done) | (simp only [if_neg (by assumption : ¬ to_ = 0)]; done)) | (rw [spanS_no hi0.1 (by assumption), ← hs1])), (by first | (rw [spanS_yes hi0.1 (by assumption)]; done) | (rw [spanS_no hi0.1 (by assumption), ← hs2])), (by omega), rfl⟩
    · refine aw_reg [(7, .call [(true, I ((2 * l.X) + (((2 * k) + 1) * l.Cell))), (true, I (2 * b.X1)), (true, I (2 * b.X2))] true (Bv false))] [0, 3, 6, 7, 8, 41] [3] [.ptr false [Sv l.Text, I l.X, I l.Y, I l.Cell], .ref 3 0, I fr_, I to_, I k, Bv true] [some (.box [I b.X1, I b.Y1, I b.X2, I b.Y2])] [inR .i64 (2 * b.X1), inR .i64 (2 * b.X2), Con Tryd.prog 36 [I ((2 * l.X) + (((2 * k) + 1) * l.Cell)), I (2 * b.X1), I (2 * b.X2)] true (Bv false) ∧ ((I ((2 * l.X) + (((2 * k) + 1) * l.Cell)) : AV) = I ((2 * l.X) + (((2 * k) + 1) * l.Cell))) ∧ ((I (2 * b.X1) : AV) = I (2 * b.X1)) ∧ ((I (2 * b.X2) : AV) = I (2 * b.X2)) ∧ True] (by kernel_rfl) hB ⟨(inR_i64 (by omega) (by omega)), (inR_i64 (by omega) (by omega)), ⟨(con_bool h2 (l00In_ok ((2 * l.X) + (((2 * k) + 1) * l.Cell)) (2 * b.X1) (2 * b.X2))), rfl, rfl, rfl, trivial⟩, trivial⟩ ?_
      refine ae_then ?_
      refine aw_true rfl ?_
      refine aw_exit ?_
      refine ae_exit_then ?_
      refine ae_exit_same ?_
      refine ae_then ?_
      refine aw_reg [] [0, 3, 6, 7, 8] [3] [.ptr false [Sv l.Text, I l.X, I l.Y, I l.Cell], .ref 3 0, I fr_, I to_, I (k + 1)] [some (.box [I b.X1, I b.Y1, I b.X2, I b.Y2])] [inR .i64 (k + 1)] (by kernel_rfl) hB ⟨(inR_i64 (by omega) (by omega)), trivial⟩ ?_
      exact ae_again _ (by omega) ⟨fr_, to_, (k + 1), rfl, (by omega), (by first | (rw [spanS_yes hi0.1 (by assumption), ← hs1, ← hs2]; first | (simp only [if_pos (by assumption : to_ = 0)]; done) | (simp only [if_neg (by assumption : ¬ to_ = 0)]; done)) | (rw [spanS_no hi0.1 (by assumption), ← hs1])), (by first | (rw [spanS_yes hi0.1 (by assumption)]; done) | (rw [spanS_no hi0.1 (by assumption), ← hs2])), (by omega), rfl⟩
  · have hie : k.toNat = l.Text.size := by omega
    rw [hie] at hs1 hs2
    refine aw_reg [(6, .dec false)] [0, 3, 6, 7, 8, 16] [3] [.ptr false [Sv l.Text, I l.X, I l.Y, I l.Cell], .ref 3 0, I fr_, I to_, I k, Bv false] [some (.box [I b.X1, I b.Y1, I b.X2, I b.Y2])] [¬ (k < (l.Text.size : Int))] (by kernel_rfl) hB ⟨h1, trivial⟩ ?_
    refine ae_then ?_
    refine aw_false rfl ?_
    refine aw_exit ?_
    refine ae_exit_then ?_
    refine ae_exit_then ?_
    refine ae_exit_same ?_
    refine ae_then ?_
    refine aw_seq ?_
    refine aw_reg [] [4, 5] [] [I fr_, I to_] [] [] (by kernel_rfl) hB trivial ?_
    refine ae_then ?_
    refine aw_ret ?_
    refine ae_ret hB (.tup [I fr_, I to_]) (by kernel_rfl) (.inl (by rw [hs1, hs2])) rfl (fun _ => (by simp [tagged, taggedL]))


theorem tip_lt' (xs : List Point) : ∀ k : Nat, tipS xs k < max 1 k
  | 0 => by simp [tipS]
  | k + 1 => by
    have := tip_lt' xs k
    unfold tipS; split <;> omega
theorem tip_lt {xs : List Point} (h : 0 < xs.length) : tipS xs xs.length < xs.length := by
  have := tip_lt' xs xs.length
  omega

-- spec.l23Edit
theorem l23Edit_ok (l : CellRow) (s : Stroke) (hr0 : okRow l = true) (ok : okStroke' s = true) : Con Tryd.prog 42 [.ptr false [Sv l.Text, I l.X, I l.Y, I l.Cell], .ptr false [slPoint false s.Points]] true (.tup [.agg [I (((editR l s).1).Kind), I (((editR l s).1).From), I (((editR l s).1).To)], I ((editR l s).2)]) := by
  have hr := okRow_iff.1 hr0
  have hln := okS_len ok
  have hbx := boxS_all ok
  unfold okBox at hbx
  have hpd := okP_iff.1 (okS_at ok (j := tipS s.Points s.Points.length) (tip_lt (by omega)))
  have htl := tip_lt (xs := s.Points) (by omega)
  have htn : ((tipS s.Points s.Points.length : Nat) : Int).toNat = tipS s.Points s.Points.length := Int.toNat_natCast _
  have hpd2 := hpd
  rw [← htn] at hpd2
  have hsp := spanS_bd l (boxS s.Points s.Points.length) l.Text.size
  refine fn_ok (fn := Tryd.f42) (nt := 76) Tryd.func42 rfl rfl rfl rfl (by simp [taggedL, tagged, tagPoint]) fun B hB => ?_
  refine aw_lens (x := .ptr false [slPoint false s.Points]) 1 rfl (fun len_s => ?_)
  simp [LenOK, LenL, cPoint, fPoint, slPoint] at len_s
  refine aw_seq ?_
  refine aw_reg [(0, .new 4)] [0, 1, 4] [4] [.ptr false [Sv l.Text, I l.X, I l.Y, I l.Cell], .ptr false [slPoint false s.Points], .ref 4 0] [some (.box [I 0, I 0, I 0])] [] (by kernel_rfl) hB trivial ?_
  refine ae_then ?_
  refine aw_seq ?_
  refine aw_reg [] [0, 1, 4] [4] [.ptr false [Sv l.Text, I l.X, I l.Y, I l.Cell], .ptr false [slPoint false s.Points], .ref 4 0] [some (.box [I 0, I 0, I 0])] [] (by kernel_rfl) hB trivial ?_
  refine ae_then ?_
  refine aw_seq ?_
  refine aw_seq ?_
  refine aw_reg [(1, .call [(true, .ptr false [slPoint false s.Points])] true (I (gestI s)))] [0, 1, 4, 12] [4] [.ptr false [Sv l.Text, I l.X, I l.Y, I l.Cell], .ptr false [slPoint false s.Points], .ref 4 0, I (gestI s)] [some (.box [I 0, I 0, I 0])] [Con Tryd.prog 53 [.ptr false [slPoint false s.Points]] true (I (gestI s)) ∧ ((.ptr false [slPoint false s.Points] : AV) = .ptr false [slPoint false s.Points]) ∧ True] (by kernel_rfl) hB ⟨⟨(l23Gesture_ok s ok), rfl, trivial⟩, trivial⟩ ?_
  refine ae_then ?_
  refine aw_block ?_
  refine aw_seq ?_
  by_cases h1 : (gestI s) = 2
  · refine aw_reg [(0, .dec true)] [0, 1, 4, 12, 14] [4] [.ptr false [Sv l.Text, I l.X, I l.Y, I l.Cell], .ptr false [slPoint false s.Points], .ref 4 0, I (gestI s), Bv true] [some (.box [I 0, I 0, I 0])] [(gestI s) = 2] (by kernel_rfl) hB ⟨h1, trivial⟩ ?_
    refine ae_then ?_
    refine aw_true rfl ?_
    refine aw_reg [] [0, 1, 4, 6] [4] [.ptr false [Sv l.Text, I l.X, I l.Y, I l.Cell], .ptr false [slPoint false s.Points], .ref 4 0, I 1] [some (.box [I 0, I 0, I 0])] [] (by kernel_rfl) hB trivial ?_
    refine ae_block 0 ?_
    refine ae_then ?_
    refine aw_seq ?_
    refine aw_reg [(1, .call [(true, .ptr false [slPoint false s.Points])] true (.agg [I ((boxS s.Points s.Points.length).X1), I ((boxS s.Points s.Points.length).Y1), I ((boxS s.Points s.Points.length).X2), I ((boxS s.Points s.Points.length).Y2)])), (2, .new 7)] [0, 1, 4, 6, 7] [4, 7] [.ptr false [Sv l.Text, I l.X, I l.Y, I l.Cell], .ptr false [slPoint false s.Points], .ref 4 0, I 1, .ref 7 0] [some (.box [I 0, I 0, I 0]), some (.box [I ((boxS s.Points s.Points.length).X1), I ((boxS s.Points s.Points.length).Y1), I ((boxS s.Points s.Points.length).X2), I ((boxS s.Points s.Points.length).Y2)])] [Con Tryd.prog 54 [.ptr false [slPoint false s.Points]] true (.agg [I ((boxS s.Points s.Points.length).X1), I ((boxS s.Points s.Points.length).Y1), I ((boxS s.Points s.Points.length).X2), I ((boxS s.Points s.Points.length).Y2)]) ∧ ((.ptr false [slPoint false s.Points] : AV) = .ptr false [slPoint false s.Points]) ∧ True] (by kernel_rfl) hB ⟨⟨(l02BoxOf_ok s ok), rfl, trivial⟩, trivial⟩ ?_
    refine ae_then ?_
    refine aw_seq ?_
    refine aw_seq ?_
    by_cases h2 : ((boxS s.Points s.Points.length).Y2) < l.Y
    · refine aw_reg [(6, .dec true)] [0, 1, 4, 6, 7, 43] [4, 7] [.ptr false [Sv l.Text, I l.X, I l.Y, I l.Cell], .ptr false [slPoint false s.Points], .ref 4 0, I 1, .ref 7 0, Bv true] [some (.box [I 0, I 0, I 0]), some (.box [I ((boxS s.Points s.Points.length).X1), I ((boxS s.Points s.Points.length).Y1), I ((boxS s.Points s.Points.length).X2), I ((boxS s.Points s.Points.length).Y2)])] [((boxS s.Points s.Points.length).Y2) < l.Y] (by kernel_rfl) hB ⟨h2, trivial⟩ ?_
      refine ae_then ?_
      refine aw_true rfl ?_
      refine aw_seq ?_
      refine aw_reg [] [4, 5] [4] [.ref 4 0, I 3] [some (.box [I 0, I 0, I 0])] [] (by kernel_rfl) hB trivial ?_
      refine ae_then ?_
      refine aw_ret ?_
      refine ae_ret_then ?_
      refine ae_ret hB (.tup [.agg [I 0, I 0, I 0], I 3]) (by kernel_rfl) (.inl (by simp [editR, kindI, *])) rfl (fun _ => (by simp [tagged, taggedL]))
    · by_cases h3 : (l.Y + (2 * l.Cell)) < ((boxS s.Points s.Points.length).Y1)
      · refine aw_reg [(6, .dec false), (20, .dec true)] [0, 1, 4, 6, 7, 43] [4, 7] [.ptr false [Sv l.Text, I l.X, I l.Y, I l.Cell], .ptr false [slPoint false s.Points], .ref 4 0, I 1, .ref 7 0, Bv true] [some (.box [I 0, I 0, I 0]), some (.box [I ((boxS s.Points s.Points.length).X1), I ((boxS s.Points s.Points.length).Y1), I ((boxS s.Points s.Points.length).X2), I ((boxS s.Points s.Points.length).Y2)])] [¬ (((boxS s.Points s.Points.length).Y2) < l.Y), inR .i64 (2 * l.Cell), inR .i64 (l.Y + (2 * l.Cell)), (l.Y + (2 * l.Cell)) < ((boxS s.Points s.Points.length).Y1)] (by kernel_rfl) hB ⟨h2, (inR_i64 (by omega) (by omega)), (inR_i64 (by omega) (by omega)), h3, trivial⟩ ?_
        refine ae_then ?_
        refine aw_true rfl ?_
        refine aw_seq ?_
        refine aw_reg [] [4, 5] [4] [.ref 4 0, I 3] [some (.box [I 0, I 0, I 0])] [] (by kernel_rfl) hB trivial ?_
        refine ae_then ?_
        refine aw_ret ?_
        refine ae_ret_then ?_
        refine ae_ret hB (.tup [.agg [I 0, I 0, I 0], I 3]) (by kernel_rfl) (.inl (by simp [editR, kindI, *])) rfl (fun _ => (by simp [tagged, taggedL]))
      · refine aw_reg [(6, .dec false), (20, .dec false)] [0, 1, 4, 6, 7, 43] [4, 7] [.ptr false [Sv l.Text, I l.X, I l.Y, I l.Cell], .ptr false [slPoint false s.Points], .ref 4 0, I 1, .ref 7 0, Bv false] [some (.box [I 0, I 0, I 0]), some (.box [I ((boxS s.Points s.Points.length).X1), I ((boxS s.Points s.Points.length).Y1), I ((boxS s.Points s.Points.length).X2), I ((boxS s.Points s.Points.length).Y2)])] [¬ (((boxS s.Points s.Points.length).Y2) < l.Y), inR .i64 (2 * l.Cell), inR .i64 (l.Y + (2 * l.Cell)), ¬ ((l.Y + (2 * l.Cell)) < ((boxS s.Points s.Points.length).Y1))] (by kernel_rfl) hB ⟨h2, (inR_i64 (by omega) (by omega)), (inR_i64 (by omega) (by omega)), h3, trivial⟩ ?_
        refine ae_then ?_
        refine aw_false rfl ?_
        refine aw_skip ?_
        refine ae_then ?_
        refine aw_seq ?_
        refine aw_seq ?_
        refine aw_reg [(1, .dec false)] [0, 1, 4, 6, 7, 46] [4, 7] [.ptr false [Sv l.Text, I l.X, I l.Y, I l.Cell], .ptr false [slPoint false s.Points], .ref 4 0, I 1, .ref 7 0, Bv false] [some (.box [I 0, I 0, I 0]), some (.box [I ((boxS s.Points s.Points.length).X1), I ((boxS s.Points s.Points.length).Y1), I ((boxS s.Points s.Points.length).X2), I ((boxS s.Points s.Points.length).Y2)])] [¬ ((1 : Int) = 3)] (by kernel_rfl) hB ⟨(by decide), trivial⟩ ?_
        refine ae_then ?_
        refine aw_false rfl ?_
        refine aw_skip ?_
        refine ae_then ?_
        refine aw_seq ?_
        refine aw_reg [(2, .call [(true, .ptr false [Sv l.Text, I l.X, I l.Y, I l.Cell]), (true, .agg [I ((boxS s.Points s.Points.length).X1), I ((boxS s.Points s.Points.length).Y1), I ((boxS s.Points s.Points.length).X2), I ((boxS s.Points s.Points.length).Y2)])] true (.tup [I ((spanS l (boxS s.Points s.Points.length) l.Text.size).1), I ((spanS l (boxS s.Points s.Points.length) l.Text.size).2)]))] [4, 6, 9, 10] [4] [.ref 4 0, I 1, I ((spanS l (boxS s.Points s.Points.length) l.Text.size).1), I ((spanS l (boxS s.Points s.Points.length) l.Text.size).2)] [some (.box [I 0, I 0, I 0])] [Con Tryd.prog 57 [.ptr false [Sv l.Text, I l.X, I l.Y, I l.Cell], .agg [I ((boxS s.Points s.Points.length).X1), I ((boxS s.Points s.Points.length).Y1), I ((boxS s.Points s.Points.length).X2), I ((boxS s.Points s.Points.length).Y2)]] true (.tup [I ((spanS l (boxS s.Points s.Points.length) l.Text.size).1), I ((spanS l (boxS s.Points s.Points.length) l.Text.size).2)]) ∧ ((.ptr false [Sv l.Text, I l.X, I l.Y, I l.Cell] : AV) = .ptr false [Sv l.Text, I l.X, I l.Y, I l.Cell]) ∧ ((.agg [I ((boxS s.Points s.Points.length).X1), I ((boxS s.Points s.Points.length).Y1), I ((boxS s.Points s.Points.length).X2), I ((boxS s.Points s.Points.length).Y2)] : AV) = .agg [I ((boxS s.Points s.Points.length).X1), I ((boxS s.Points s.Points.length).Y1), I ((boxS s.Points s.Points.length).X2), I ((boxS s.Points s.Points.length).Y2)]) ∧ True] (by kernel_rfl) hB ⟨⟨(l23Span_ok l (boxS s.Points s.Points.length) hr0 (by omega)), rfl, rfl, trivial⟩, trivial⟩ ?_
        refine ae_then ?_
        refine aw_seq ?_
        refine aw_seq ?_
        by_cases h4 : ((spanS l (boxS s.Points s.Points.length) l.Text.size).1) = ((spanS l (boxS s.Points s.Points.length) l.Text.size).2)
        · have hz : (spanS l (boxS s.Points s.Points.length) l.Text.size).2 = 0 := by omega
          refine aw_reg [(2, .dec true)] [4, 6, 9, 10, 70] [4] [.ref 4 0, I 1, I ((spanS l (boxS s.Points s.Points.length) l.Text.size).1), I ((spanS l (boxS s.Points s.Points.length) l.Text.size).2), Bv true] [some (.box [I 0, I 0, I 0])] [((spanS l (boxS s.Points s.Points.length) l.Text.size).1) = ((spanS l (boxS s.Points s.Points.length) l.Text.size).2)] (by kernel_rfl) hB ⟨h4, trivial⟩ ?_
          refine ae_then ?_
          refine aw_true rfl ?_
          refine aw_seq ?_
          refine aw_reg [] [4, 5] [4] [.ref 4 0, I 3] [some (.box [I 0, I 0, I 0])] [] (by kernel_rfl) hB trivial ?_
          refine ae_then ?_
          refine aw_ret ?_
          refine ae_ret_then ?_
          refine ae_ret hB (.tup [.agg [I 0, I 0, I 0], I 3]) (by kernel_rfl) (.inl (by simp [editR, kindI, *])) rfl (fun _ => (by simp [tagged, taggedL]))
        · have hz : ¬ (spanS l (boxS s.Points s.Points.length) l.Text.size).2 = 0 := by omega
          refine aw_reg [(2, .dec false)] [4, 6, 9, 10, 70] [4] [.ref 4 0, I 1, I ((spanS l (boxS s.Points s.Points.length) l.Text.size).1), I ((spanS l (boxS s.Points s.Points.length) l.Text.size).2), Bv false] [some (.box [I 0, I 0, I 0])] [¬ (((spanS l (boxS s.Points s.Points.length) l.Text.size).1) = ((spanS l (boxS s.Points s.Points.length) l.Text.size).2))] (by kernel_rfl) hB ⟨h4, trivial⟩ ?_
          refine ae_then ?_
          refine aw_false rfl ?_
          refine aw_skip ?_
          refine ae_then ?_
          refine aw_seq ?_
          refine aw_reg [] [4, 5] [4] [.ref 4 0, I 0] [some (.box [I 1, I ((spanS l (boxS s.Points s.Points.length) l.Text.size).1), I ((spanS l (boxS s.Points s.Points.length) l.Text.size).2)])] [] (by kernel_rfl) hB trivial ?_
          refine ae_then ?_
          refine aw_ret ?_
          refine ae_ret hB (.tup [.agg [I 1, I ((spanS l (boxS s.Points s.Points.length) l.Text.size).1), I ((spanS l (boxS s.Points s.Points.length) l.Text.size).2)], I 0]) (by kernel_rfl) (.inl (by simp [editR, kindI, *])) rfl (fun _ => (by simp [tagged, taggedL]))
  · refine aw_reg [(0, .dec false)] [0, 1, 4, 12, 14] [4] [.ptr false [Sv l.Text, I l.X, I l.Y, I l.Cell], .ptr false [slPoint false s.Points], .ref 4 0, I (gestI s), Bv false] [some (.box [I 0, I 0, I 0])] [¬ ((gestI s) = 2)] (by kernel_rfl) hB ⟨h1, trivial⟩ ?_
    refine ae_then ?_
    refine aw_false rfl ?_
    refine aw_seq ?_
    by_cases h5 : (gestI s) = 3
    · refine aw_reg [(0, .dec true)] [0, 1, 4, 12, 16] [4] [.ptr false [Sv l.Text, I l.X, I l.Y, I l.Cell], .ptr false [slPoint false s.Points], .ref 4 0, I (gestI s), Bv true] [some (.box [I 0, I 0, I 0])] [(gestI s) = 3] (by kernel_rfl) hB ⟨h5, trivial⟩ ?_
      refine ae_then ?_
      refine aw_true rfl ?_
      refine aw_reg [] [0, 1, 4, 6] [4] [.ptr false [Sv l.Text, I l.X, I l.Y, I l.Cell], .ptr false [slPoint false s.Points], .ref 4 0, I 2] [some (.box [I 0, I 0, I 0])] [] (by kernel_rfl) hB trivial ?_
      refine ae_block 0 ?_
      refine ae_then ?_
      refine aw_seq ?_
      refine aw_reg [(1, .call [(true, .ptr false [slPoint false s.Points])] true (.agg [I ((boxS s.Points s.Points.length).X1), I ((boxS s.Points s.Points.length).Y1), I ((boxS s.Points s.Points.length).X2), I ((boxS s.Points s.Points.length).Y2)])), (2, .new 7)] [0, 1, 4, 6, 7] [4, 7] [.ptr false [Sv l.Text, I l.X, I l.Y, I l.Cell], .ptr false [slPoint false s.Points], .ref 4 0, I 2, .ref 7 0] [some (.box [I 0, I 0, I 0]), some (.box [I ((boxS s.Points s.Points.length).X1), I ((boxS s.Points s.Points.length).Y1), I ((boxS s.Points s.Points.length).X2), I ((boxS s.Points s.Points.length).Y2)])] [Con Tryd.prog 54 [.ptr false [slPoint false s.Points]] true (.agg [I ((boxS s.Points s.Points.length).X1), I ((boxS s.Points s.Points.length).Y1), I ((boxS s.Points s.Points.length).X2), I ((boxS s.Points s.Points.length).Y2)]) ∧ ((.ptr false [slPoint false s.Points] : AV) = .ptr false [slPoint false s.Points]) ∧ True] (by kernel_rfl) hB ⟨⟨(l02BoxOf_ok s ok), rfl, trivial⟩, trivial⟩ ?_
      refine ae_then ?_
      refine aw_seq ?_
      refine aw_seq ?_
      by_cases h6 : ((boxS s.Points s.Points.length).Y2) < l.Y
      · refine aw_reg [(6, .dec true)] [0, 1, 4, 6, 7, 43] [4, 7] [.ptr false [Sv l.Text, I l.X, I l.Y, I l.Cell], .ptr false [slPoint false s.Points], .ref 4 0, I 2, .ref 7 0, Bv true] [some (.box [I 0, I 0, I 0]), some (.box [I ((boxS s.Points s.Points.length).X1), I ((boxS s.Points s.Points.length).Y1), I ((boxS s.Points s.Points.length).X2), I ((boxS s.Points s.Points.length).Y2)])] [((boxS s.Points s.Points.length).Y2) < l.Y] (by kernel_rfl) hB ⟨h6, trivial⟩ ?_
        refine ae_then ?_
        refine aw_true rfl ?_
        refine aw_seq ?_
        refine aw_reg [] [4, 5] [4] [.ref 4 0, I 3] [some (.box [I 0, I 0, I 0])] [] (by kernel_rfl) hB trivial ?_
        refine ae_then ?_
        refine aw_ret ?_
        refine ae_ret_then ?_
        refine ae_ret hB (.tup [.agg [I 0, I 0, I 0], I 3]) (by kernel_rfl) (.inl (by simp [editR, kindI, *])) rfl (fun _ => (by simp [tagged, taggedL]))
      · by_cases h7 : (l.Y + (2 * l.Cell)) < ((boxS s.Points s.Points.length).Y1)
        · refine aw_reg [(6, .dec false), (20, .dec true)] [0, 1, 4, 6, 7, 43] [4, 7] [.ptr false [Sv l.Text, I l.X, I l.Y, I l.Cell], .ptr false [slPoint false s.Points], .ref 4 0, I 2, .ref 7 0, Bv true] [some (.box [I 0, I 0, I 0]), some (.box [I ((boxS s.Points s.Points.length).X1), I ((boxS s.Points s.Points.length).Y1), I ((boxS s.Points s.Points.length).X2), I ((boxS s.Points s.Points.length).Y2)])] [¬ (((boxS s.Points s.Points.length).Y2) < l.Y), inR .i64 (2 * l.Cell), inR .i64 (l.Y + (2 * l.Cell)), (l.Y + (2 * l.Cell)) < ((boxS s.Points s.Points.length).Y1)] (by kernel_rfl) hB ⟨h6, (inR_i64 (by omega) (by omega)), (inR_i64 (by omega) (by omega)), h7, trivial⟩ ?_
          refine ae_then ?_
          refine aw_true rfl ?_
          refine aw_seq ?_
          refine aw_reg [] [4, 5] [4] [.ref 4 0, I 3] [some (.box [I 0, I 0, I 0])] [] (by kernel_rfl) hB trivial ?_
          refine ae_then ?_
          refine aw_ret ?_
          refine ae_ret_then ?_
          refine ae_ret hB (.tup [.agg [I 0, I 0, I 0], I 3]) (by kernel_rfl) (.inl (by simp [editR, kindI, *])) rfl (fun _ => (by simp [tagged, taggedL]))
        · refine aw_reg [(6, .dec false), (20, .dec false)] [0, 1, 4, 6, 7, 43] [4, 7] [.ptr false [Sv l.Text, I l.X, I l.Y, I l.Cell], .ptr false [slPoint false s.Points], .ref 4 0, I 2, .ref 7 0, Bv false] [some (.box [I 0, I 0, I 0]), some (.box [I ((boxS s.Points s.Points.length).X1), I ((boxS s.Points s.Points.length).Y1), I ((boxS s.Points s.Points.length).X2), I ((boxS s.Points s.Points.length).Y2)])] [¬ (((boxS s.Points s.Points.length).Y2) < l.Y), inR .i64 (2 * l.Cell), inR .i64 (l.Y + (2 * l.Cell)), ¬ ((l.Y + (2 * l.Cell)) < ((boxS s.Points s.Points.length).Y1))] (by kernel_rfl) hB ⟨h6, (inR_i64 (by omega) (by omega)), (inR_i64 (by omega) (by omega)), h7, trivial⟩ ?_
          refine ae_then ?_
          refine aw_false rfl ?_
          refine aw_skip ?_
          refine ae_then ?_
          refine aw_seq ?_
          refine aw_seq ?_
          refine aw_reg [(1, .dec false)] [0, 1, 4, 6, 7, 46] [4, 7] [.ptr false [Sv l.Text, I l.X, I l.Y, I l.Cell], .ptr false [slPoint false s.Points], .ref 4 0, I 2, .ref 7 0, Bv false] [some (.box [I 0, I 0, I 0]), some (.box [I ((boxS s.Points s.Points.length).X1), I ((boxS s.Points s.Points.length).Y1), I ((boxS s.Points s.Points.length).X2), I ((boxS s.Points s.Points.length).Y2)])] [¬ ((2 : Int) = 3)] (by kernel_rfl) hB ⟨(by decide), trivial⟩ ?_
          refine ae_then ?_
          refine aw_false rfl ?_
          refine aw_skip ?_
          refine ae_then ?_
          refine aw_seq ?_
          refine aw_reg [(2, .call [(true, .ptr false [Sv l.Text, I l.X, I l.Y, I l.Cell]), (true, .agg [I ((boxS s.Points s.Points.length).X1), I ((boxS s.Points s.Points.length).Y1), I ((boxS s.Points s.Points.length).X2), I ((boxS s.Points s.Points.length).Y2)])] true (.tup [I ((spanS l (boxS s.Points s.Points.length) l.Text.size).1), I ((spanS l (boxS s.Points s.Points.length) l.Text.size).2)]))] [4, 6, 9, 10] [4] [.ref 4 0, I 2, I ((spanS l (boxS s.Points s.Points.length) l.Text.size).1), I ((spanS l (boxS s.Points s.Points.length) l.Text.size).2)] [some (.box [I 0, I 0, I 0])] [Con Tryd.prog 57 [.ptr false [Sv l.Text, I l.X, I l.Y, I l.Cell], .agg [I ((boxS s.Points s.Points.length).X1), I ((boxS s.Points s.Points.length).Y1), I ((boxS s.Points s.Points.length).X2), I ((boxS s.Points s.Points.length).Y2)]] true (.tup [I ((spanS l (boxS s.Points s.Points.length) l.Text.size).1), I ((spanS l (boxS s.Points s.Points.length) l.Text.size).2)]) ∧ ((.ptr false [Sv l.Text, I l.X, I l.Y, I l.Cell] : AV) = .ptr false [Sv l.Text, I l.X, I l.Y, I l.Cell]) ∧ ((.agg [I ((boxS s.Points s.Points.length).X1), I ((boxS s.Points s.Points.length).Y1), I ((boxS s.Points s.Points.length).X2), I ((boxS s.Points s.Points.length).Y2)] : AV) = .agg [I ((boxS s.Points s.Points.length).X1), I ((boxS s.Points s.Points.length).Y1), I ((boxS s.Points s.Points.length).X2), I ((boxS s.Points s.Points.length).Y2)]) ∧ True] (by kernel_rfl) hB ⟨⟨(l23Span_ok l (boxS s.Points s.Points.length) hr0 (by omega)), rfl, rfl, trivial⟩, trivial⟩ ?_
          refine ae_then ?_
          refine aw_seq ?_
          refine aw_seq ?_
          by_cases h8 : ((spanS l (boxS s.Points s.Points.length) l.Text.size).1) = ((spanS l (boxS s.Points s.Points.length) l.Text.size).2)
          · have hz : (spanS l (boxS s.Points s.Points.length) l.Text.size).2 = 0 := by omega
            refine aw_reg [(2, .dec true)] [4, 6, 9, 10, 70] [4] [.ref 4 0, I 2, I ((spanS l (boxS s.Points s.Points.length) l.Text.size).1), I ((spanS l (boxS s.Points s.Points.length) l.Text.size).2), Bv true] [some (.box [I 0, I 0, I 0])] [((spanS l (boxS s.Points s.Points.length) l.Text.size).1) = ((spanS l (boxS s.Points s.Points.length) l.Text.size).2)] (by kernel_rfl) hB ⟨h8, trivial⟩ ?_
            refine ae_then ?_
            refine aw_true rfl ?_
            refine aw_seq ?_
            refine aw_reg [] [4, 5] [4] [.ref 4 0, I 3] [some (.box [I 0, I 0, I 0])] [] (by kernel_rfl) hB trivial ?_
            refine ae_then ?_
            refine aw_ret ?_
            refine ae_ret_then ?_
            refine ae_ret hB (.tup [.agg [I 0, I 0, I 0], I 3]) (by kernel_rfl) (.inl (by simp [editR, kindI, *])) rfl (fun _ => (by simp [tagged, taggedL]))
          · have hz : ¬ (spanS l (boxS s.Points s.Points.length) l.Text.size).2 = 0 := by omega
            refine aw_reg [(2, .dec false)] [4, 6, 9, 10, 70] [4] [.ref 4 0, I 2, I ((spanS l (boxS s.Points s.Points.length) l.Text.size).1), I ((spanS l (boxS s.Points s.Points.length) l.Text.size).2), Bv false] [some (.box [I 0, I 0, I 0])] [¬ (((spanS l (boxS s.Points s.Points.length) l.Text.size).1) = ((spanS l (boxS s.Points s.Points.length) l.Text.size).2))] (by kernel_rfl) hB ⟨h8, trivial⟩ ?_
            refine ae_then ?_
            refine aw_false rfl ?_
            refine aw_skip ?_
            refine ae_then ?_
            refine aw_seq ?_
            refine aw_reg [] [4, 5] [4] [.ref 4 0, I 0] [some (.box [I 2, I ((spanS l (boxS s.Points s.Points.length) l.Text.size).1), I ((spanS l (boxS s.Points s.Points.length) l.Text.size).2)])] [] (by kernel_rfl) hB trivial ?_
            refine ae_then ?_
            refine aw_ret ?_
            refine ae_ret hB (.tup [.agg [I 2, I ((spanS l (boxS s.Points s.Points.length) l.Text.size).1), I ((spanS l (boxS s.Points s.Points.length) l.Text.size).2)], I 0]) (by kernel_rfl) (.inl (by simp [editR, kindI, *])) rfl (fun _ => (by simp [tagged, taggedL]))
    · refine aw_reg [(0, .dec false)] [0, 1, 4, 12, 16] [4] [.ptr false [Sv l.Text, I l.X, I l.Y, I l.Cell], .ptr false [slPoint false s.Points], .ref 4 0, I (gestI s), Bv false] [some (.box [I 0, I 0, I 0])] [¬ ((gestI s) = 3)] (by kernel_rfl) hB ⟨h5, trivial⟩ ?_
      refine ae_then ?_
      refine aw_false rfl ?_
      refine aw_seq ?_
      by_cases h9 : (gestI s) = 4
      · refine aw_reg [(0, .dec true)] [0, 1, 4, 18] [4] [.ptr false [Sv l.Text, I l.X, I l.Y, I l.Cell], .ptr false [slPoint false s.Points], .ref 4 0, Bv true] [some (.box [I 0, I 0, I 0])] [(gestI s) = 4] (by kernel_rfl) hB ⟨h9, trivial⟩ ?_
        refine ae_then ?_
        refine aw_true rfl ?_
        refine aw_reg [] [0, 1, 4, 6] [4] [.ptr false [Sv l.Text, I l.X, I l.Y, I l.Cell], .ptr false [slPoint false s.Points], .ref 4 0, I 3] [some (.box [I 0, I 0, I 0])] [] (by kernel_rfl) hB trivial ?_
        refine ae_block 0 ?_
        refine ae_then ?_
        refine aw_seq ?_
        refine aw_reg [(1, .call [(true, .ptr false [slPoint false s.Points])] true (.agg [I ((boxS s.Points s.Points.length).X1), I ((boxS s.Points s.Points.length).Y1), I ((boxS s.Points s.Points.length).X2), I ((boxS s.Points s.Points.length).Y2)])), (2, .new 7)] [0, 1, 4, 6, 7] [4, 7] [.ptr false [Sv l.Text, I l.X, I l.Y, I l.Cell], .ptr false [slPoint false s.Points], .ref 4 0, I 3, .ref 7 0] [some (.box [I 0, I 0, I 0]), some (.box [I ((boxS s.Points s.Points.length).X1), I ((boxS s.Points s.Points.length).Y1), I ((boxS s.Points s.Points.length).X2), I ((boxS s.Points s.Points.length).Y2)])] [Con Tryd.prog 54 [.ptr false [slPoint false s.Points]] true (.agg [I ((boxS s.Points s.Points.length).X1), I ((boxS s.Points s.Points.length).Y1), I ((boxS s.Points s.Points.length).X2), I ((boxS s.Points s.Points.length).Y2)]) ∧ ((.ptr false [slPoint false s.Points] : AV) = .ptr false [slPoint false s.Points]) ∧ True] (by kernel_rfl) hB ⟨⟨(l02BoxOf_ok s ok), rfl, trivial⟩, trivial⟩ ?_
        refine ae_then ?_
        refine aw_seq ?_
        refine aw_seq ?_
        by_cases h10 : ((boxS s.Points s.Points.length).Y2) < l.Y
        · refine aw_reg [(6, .dec true)] [0, 1, 4, 6, 7, 43] [4, 7] [.ptr false [Sv l.Text, I l.X, I l.Y, I l.Cell], .ptr false [slPoint false s.Points], .ref 4 0, I 3, .ref 7 0, Bv true] [some (.box [I 0, I 0, I 0]), some (.box [I ((boxS s.Points s.Points.length).X1), I ((boxS s.Points s.Points.length).Y1), I ((boxS s.Points s.Points.length).X2), I ((boxS s.Points s.Points.length).Y2)])] [((boxS s.Points s.Points.length).Y2) < l.Y] (by kernel_rfl) hB ⟨h10, trivial⟩ ?_
          refine ae_then ?_
          refine aw_true rfl ?_
          refine aw_seq ?_
          refine aw_reg [] [4, 5] [4] [.ref 4 0, I 3] [some (.box [I 0, I 0, I 0])] [] (by kernel_rfl) hB trivial ?_
          refine ae_then ?_
          refine aw_ret ?_
          refine ae_ret_then ?_
          refine ae_ret hB (.tup [.agg [I 0, I 0, I 0], I 3]) (by kernel_rfl) (.inl (by simp [editR, kindI, *])) rfl (fun _ => (by simp [tagged, taggedL]))
        · by_cases h11 : (l.Y + (2 * l.Cell)) < ((boxS s.Points s.Points.length).Y1)
          · refine aw_reg [(6, .dec false), (20, .dec true)] [0, 1, 4, 6, 7, 43] [4, 7] [.ptr false [Sv l.Text, I l.X, I l.Y, I l.Cell], .ptr false [slPoint false s.Points], .ref 4 0, I 3, .ref 7 0, Bv true] [some (.box [I 0, I 0, I 0]), some (.box [I ((boxS s.Points s.Points.length).X1), I ((boxS s.Points s.Points.length).Y1), I ((boxS s.Points s.Points.length).X2), I ((boxS s.Points s.Points.length).Y2)])] [¬ (((boxS s.Points s.Points.length).Y2) < l.Y), inR .i64 (2 * l.Cell), inR .i64 (l.Y + (2 * l.Cell)), (l.Y + (2 * l.Cell)) < ((boxS s.Points s.Points.length).Y1)] (by kernel_rfl) hB ⟨h10, (inR_i64 (by omega) (by omega)), (inR_i64 (by omega) (by omega)), h11, trivial⟩ ?_
            refine ae_then ?_
            refine aw_true rfl ?_
            refine aw_seq ?_
            refine aw_reg [] [4, 5] [4] [.ref 4 0, I 3] [some (.box [I 0, I 0, I 0])] [] (by kernel_rfl) hB trivial ?_
            refine ae_then ?_
            refine aw_ret ?_
            refine ae_ret_then ?_
            refine ae_ret hB (.tup [.agg [I 0, I 0, I 0], I 3]) (by kernel_rfl) (.inl (by simp [editR, kindI, *])) rfl (fun _ => (by simp [tagged, taggedL]))
          · refine aw_reg [(6, .dec false), (20, .dec false)] [0, 1, 4, 6, 7, 43] [4, 7] [.ptr false [Sv l.Text, I l.X, I l.Y, I l.Cell], .ptr false [slPoint false s.Points], .ref 4 0, I 3, .ref 7 0, Bv false] [some (.box [I 0, I 0, I 0]), some (.box [I ((boxS s.Points s.Points.length).X1), I ((boxS s.Points s.Points.length).Y1), I ((boxS s.Points s.Points.length).X2), I ((boxS s.Points s.Points.length).Y2)])] [¬ (((boxS s.Points s.Points.length).Y2) < l.Y), inR .i64 (2 * l.Cell), inR .i64 (l.Y + (2 * l.Cell)), ¬ ((l.Y + (2 * l.Cell)) < ((boxS s.Points s.Points.length).Y1))] (by kernel_rfl) hB ⟨h10, (inR_i64 (by omega) (by omega)), (inR_i64 (by omega) (by omega)), h11, trivial⟩ ?_
            refine ae_then ?_
            refine aw_false rfl ?_
            refine aw_skip ?_
            refine ae_then ?_
            refine aw_seq ?_
            refine aw_seq ?_
            refine aw_reg [(1, .dec true)] [0, 1, 4, 6, 7, 46] [4, 7] [.ptr false [Sv l.Text, I l.X, I l.Y, I l.Cell], .ptr false [slPoint false s.Points], .ref 4 0, I 3, .ref 7 0, Bv true] [some (.box [I 0, I 0, I 0]), some (.box [I ((boxS s.Points s.Points.length).X1), I ((boxS s.Points s.Points.length).Y1), I ((boxS s.Points s.Points.length).X2), I ((boxS s.Points s.Points.length).Y2)])] [(3 : Int) = 3] (by kernel_rfl) hB ⟨(by decide), trivial⟩ ?_
            refine ae_then ?_
            refine aw_true rfl ?_
            refine aw_seq ?_
            refine aw_reg [(6, .call [(true, .ptr false [slPoint false s.Points])] true (I (tipS s.Points s.Points.length : Int))), (10, .call [(true, .ptr false [Sv l.Text, I l.X, I l.Y, I l.Cell]), (true, I ((at_ s.Points ((tipS s.Points s.Points.length : Int).toNat)).X))] true (I (placeS l ((at_ s.Points ((tipS s.Points s.Points.length : Int).toNat)).X) l.Text.size)))] [4, 6, 8] [4] [.ref 4 0, I 3, I (placeS l ((at_ s.Points ((tipS s.Points s.Points.length : Int).toNat)).X) l.Text.size)] [some (.box [I 0, I 0, I 0])] [Con Tryd.prog 56 [.ptr false [slPoint false s.Points]] true (I (tipS s.Points s.Points.length : Int)) ∧ ((.ptr false [slPoint false s.Points] : AV) = .ptr false [slPoint false s.Points]) ∧ True, (0 : Int) ≤ (tipS s.Points s.Points.length : Int) ∧ (tipS s.Points s.Points.length : Int) < (s.Points.length : Int), Con Tryd.prog 55 [.ptr false [Sv l.Text, I l.X, I l.Y, I l.Cell], I ((at_ s.Points ((tipS s.Points s.Points.length : Int).toNat)).X)] true (I (placeS l ((at_ s.Points ((tipS s.Points s.Points.length : Int).toNat)).X) l.Text.size)) ∧ ((.ptr false [Sv l.Text, I l.X, I l.Y, I l.Cell] : AV) = .ptr false [Sv l.Text, I l.X, I l.Y, I l.Cell]) ∧ ((I ((at_ s.Points ((tipS s.Points s.Points.length : Int).toNat)).X) : AV) = I ((at_ s.Points ((tipS s.Points s.Points.length : Int).toNat)).X)) ∧ True] (by kernel_rfl) hB ⟨⟨(l23Tip_ok s ok), rfl, trivial⟩, ⟨(by omega), (by omega)⟩, ⟨(l23Place_ok l ((at_ s.Points ((tipS s.Points s.Points.length : Int).toNat)).X) hr0 (by omega)), rfl, rfl, trivial⟩, trivial⟩ ?_
            refine ae_then ?_
            refine aw_seq ?_
            refine aw_reg [] [4, 5] [4] [.ref 4 0, I 0] [some (.box [I 3, I (placeS l ((at_ s.Points ((tipS s.Points s.Points.length : Int).toNat)).X) l.Text.size), I (placeS l ((at_ s.Points ((tipS s.Points s.Points.length : Int).toNat)).X) l.Text.size)])] [] (by kernel_rfl) hB trivial ?_
            refine ae_then ?_
            refine aw_ret ?_
            refine ae_ret_then ?_
            refine ae_ret hB (.tup [.agg [I 3, I (placeS l ((at_ s.Points ((tipS s.Points s.Points.length : Int).toNat)).X) l.Text.size), I (placeS l ((at_ s.Points ((tipS s.Points s.Points.length : Int).toNat)).X) l.Text.size)], I 0]) (by kernel_rfl) (.inl (by simp [editR, kindI, *])) rfl (fun _ => (by simp [tagged, taggedL]))
      · refine aw_reg [(0, .dec false)] [0, 1, 4, 18] [4] [.ptr false [Sv l.Text, I l.X, I l.Y, I l.Cell], .ptr false [slPoint false s.Points], .ref 4 0, Bv false] [some (.box [I 0, I 0, I 0])] [¬ ((gestI s) = 4)] (by kernel_rfl) hB ⟨h9, trivial⟩ ?_
        refine ae_then ?_
        refine aw_false rfl ?_
        refine aw_seq ?_
        refine aw_reg [] [4, 5] [4] [.ref 4 0, I 6] [some (.box [I 0, I 0, I 0])] [] (by kernel_rfl) hB trivial ?_
        refine ae_then ?_
        refine aw_ret ?_
        refine ae_ret_block (ae_ret_then ?_)
        refine ae_ret hB (.tup [.agg [I 0, I 0, I 0], I 6]) (by kernel_rfl) (.inl (by simp [editR, kindI, *])) rfl (fun _ => (by simp [tagged, taggedL]))


-- spec.l23Check
theorem l23Check_ok (l : CellRow) (e : Edit) (insert : ByteArray) (okl : l.Text.size ≤ 9223372036854775807) (oki : insert.size ≤ 1048576) : Con Tryd.prog 38 [.ptr false [Sv l.Text, I l.X, I l.Y, I l.Cell], .agg [I e.Kind, I e.From, I e.To], Sv insert] true (I (chkI l e insert)) := by
  refine fn_ok (fn := Tryd.f38) (nt := 69) Tryd.func38 rfl rfl rfl rfl (by simp [taggedL, tagged]) fun B hB => ?_
  refine aw_seq ?_
  refine aw_reg [(0, .new 4)] [0, 2, 4] [4] [.ptr false [Sv l.Text, I l.X, I l.Y, I l.Cell], Sv insert, .ref 4 0] [some (.box [I e.Kind, I e.From, I e.To])] [] (by kernel_rfl) hB trivial ?_
  refine ae_then ?_
  refine aw_seq ?_
  refine aw_seq ?_
  rcases Bool.eq_false_or_eq_true (okRow l) with h1 | h1
  · have hr := okRow_iff.1 h1
    rcases Bool.eq_false_or_eq_true (lettersB insert) with h2 | h2
    · rcases Bool.eq_false_or_eq_true (inB e.Kind 1 3) with h3 | h3
      · have hinh3 := inB_iff.1 h3
        refine aw_reg [(1, .call [(true, .ptr false [Sv l.Text, I l.X, I l.Y, I l.Cell])] true (Bv true)), (5, .call [(true, Sv insert)] true (Bv true)), (11, .call [(true, I e.Kind), (true, I 1), (true, I 3)] true (Bv true))] [0, 2, 4, 20] [4] [.ptr false [Sv l.Text, I l.X, I l.Y, I l.Cell], Sv insert, .ref 4 0, Bv false] [some (.box [I e.Kind, I e.From, I e.To])] [Con Tryd.prog 32 [.ptr false [Sv l.Text, I l.X, I l.Y, I l.Cell]] true (Bv true) ∧ ((.ptr false [Sv l.Text, I l.X, I l.Y, I l.Cell] : AV) = .ptr false [Sv l.Text, I l.X, I l.Y, I l.Cell]) ∧ True, Con Tryd.prog 50 [Sv insert] true (Bv true) ∧ ((Sv insert : AV) = Sv insert) ∧ True, Con Tryd.prog 36 [I e.Kind, I 1, I 3] true (Bv true) ∧ ((I e.Kind : AV) = I e.Kind) ∧ ((I 1 : AV) = I 1) ∧ ((I 3 : AV) = I 3) ∧ True] (by kernel_rfl) hB ⟨⟨(con_bool h1 (l23Ok_ok l okl)), rfl, trivial⟩, ⟨(con_bool h2 (l23Letters_ok insert (by omega))), rfl, trivial⟩, ⟨(con_bool h3 (l00In_ok e.Kind 1 3)), rfl, rfl, rfl, trivial⟩, trivial⟩ ?_
        refine ae_then ?_
        refine aw_false rfl ?_
        refine aw_skip ?_
        refine ae_then ?_
        refine aw_seq ?_
        refine aw_seq ?_
        rcases Bool.eq_false_or_eq_true (inB e.From 0 e.To) with h4 | h4
        · have hinh4 := inB_iff.1 h4
          by_cases h5 : (l.Text.size : Int) < e.To
          · refine aw_reg [(4, .call [(true, I e.From), (true, I 0), (true, I e.To)] true (Bv true)), (14, .dec true)] [0, 2, 4, 48] [4] [.ptr false [Sv l.Text, I l.X, I l.Y, I l.Cell], Sv insert, .ref 4 0, Bv true] [some (.box [I e.Kind, I e.From, I e.To])] [Con Tryd.prog 36 [I e.From, I 0, I e.To] true (Bv true) ∧ ((I e.From : AV) = I e.From) ∧ ((I 0 : AV) = I 0) ∧ ((I e.To : AV) = I e.To) ∧ True, (l.Text.size : Int) < e.To] (by kernel_rfl) hB ⟨⟨(con_bool h4 (l00In_ok e.From 0 e.To)), rfl, rfl, rfl, trivial⟩, h5, trivial⟩ ?_
            refine ae_then ?_
            refine aw_true rfl ?_
            refine aw_seq ?_
            refine aw_reg [] [6] [] [I 2] [] [] (by kernel_rfl) hB trivial ?_
            refine ae_then ?_
            refine aw_ret ?_
            refine ae_ret_then ?_
            refine ae_ret hB (I 2) (by kernel_rfl) (.inl (by refine congrArg I ?_; first | exact (chk_1 (by simp [*])).symm | exact (chk_2 (by assumption) (by assumption) (by assumption) (by omega)).symm | exact (chk_5 (by assumption) (by assumption) (by assumption) (by omega) (by omega)).symm | exact (chk_0 (by assumption) (by assumption) (by assumption) (by omega) (by omega)).symm)) rfl (fun _ => trivial)
          · by_cases h6 : e.Kind = 3
            · by_cases h7 : e.From = e.To
              · refine aw_reg [(4, .call [(true, I e.From), (true, I 0), (true, I e.To)] true (Bv true)), (14, .dec false), (19, .dec true), (25, .dec false)] [0, 2, 4, 48] [4] [.ptr false [Sv l.Text, I l.X, I l.Y, I l.Cell], Sv insert, .ref 4 0, Bv false] [some (.box [I e.Kind, I e.From, I e.To])] [Con Tryd.prog 36 [I e.From, I 0, I e.To] true (Bv true) ∧ ((I e.From : AV) = I e.From) ∧ ((I 0 : AV) = I 0) ∧ ((I e.To : AV) = I e.To) ∧ True, ¬ ((l.Text.size : Int) < e.To), e.Kind = 3, ¬ (e.From ≠ e.To)] (by kernel_rfl) hB ⟨⟨(con_bool h4 (l00In_ok e.From 0 e.To)), rfl, rfl, rfl, trivial⟩, h5, h6, (fun hq => hq h7), trivial⟩ ?_
                refine ae_then ?_
                refine aw_false rfl ?_
                refine aw_skip ?_
                refine ae_then ?_
                refine aw_seq ?_
                refine aw_seq ?_
                by_cases h8 : e.Kind = 1
                · refine aw_reg [(2, .dec false)] [68] [] [Bv false] [] [¬ (e.Kind ≠ 1)] (by kernel_rfl) hB ⟨(fun hq => hq h8), trivial⟩ ?_
                  refine ae_then ?_
                  refine aw_false rfl ?_
                  refine aw_skip ?_
                  refine ae_then ?_
                  refine aw_seq ?_
                  refine aw_reg [] [6] [] [I 0] [] [] (by kernel_rfl) hB trivial ?_
                  refine ae_then ?_
                  refine aw_ret ?_
                  refine ae_ret hB (I 0) (by kernel_rfl) (.inl (by refine congrArg I ?_; first | exact (chk_1 (by simp [*])).symm | exact (chk_2 (by assumption) (by assumption) (by assumption) (by omega)).symm | exact (chk_5 (by assumption) (by assumption) (by assumption) (by omega) (by omega)).symm | exact (chk_0 (by assumption) (by assumption) (by assumption) (by omega) (by omega)).symm)) rfl (fun _ => trivial)
                · by_cases h9 : 60 < (((l.Text.size : Int) + (insert.size : Int)) - (e.To - e.From))
                  · refine aw_reg [(2, .dec true), (18, .dec true)] [68] [] [Bv true] [] [e.Kind ≠ 1, inR .i64 ((l.Text.size : Int) + (insert.size : Int)), inR .i64 (e.To - e.From), inR .i64 (((l.Text.size : Int) + (insert.size : Int)) - (e.To - e.From)), 60 < (((l.Text.size : Int) + (insert.size : Int)) - (e.To - e.From))] (by kernel_rfl) hB ⟨h8, (inR_i64 (by omega) (by omega)), (inR_i64 (by omega) (by omega)), (inR_i64 (by omega) (by omega)), h9, trivial⟩ ?_
                    refine ae_then ?_
                    refine aw_true rfl ?_
                    refine aw_seq ?_
                    refine aw_reg [] [6] [] [I 5] [] [] (by kernel_rfl) hB trivial ?_
                    refine ae_then ?_
                    refine aw_ret ?_
                    refine ae_ret_then ?_
                    refine ae_ret hB (I 5) (by kernel_rfl) (.inl (by refine congrArg I ?_; first | exact (chk_1 (by simp [*])).symm | exact (chk_2 (by assumption) (by assumption) (by assumption) (by omega)).symm | exact (chk_5 (by assumption) (by assumption) (by assumption) (by omega) (by omega)).symm | exact (chk_0 (by assumption) (by assumption) (by assumption) (by omega) (by omega)).symm)) rfl (fun _ => trivial)
                  · refine aw_reg [(2, .dec true), (18, .dec false)] [68] [] [Bv false] [] [e.Kind ≠ 1, inR .i64 ((l.Text.size : Int) + (insert.size : Int)), inR .i64 (e.To - e.From), inR .i64 (((l.Text.size : Int) + (insert.size : Int)) - (e.To - e.From)), ¬ (60 < (((l.Text.size : Int) + (insert.size : Int)) - (e.To - e.From)))] (by kernel_rfl) hB ⟨h8, (inR_i64 (by omega) (by omega)), (inR_i64 (by omega) (by omega)), (inR_i64 (by omega) (by omega)), h9, trivial⟩ ?_
                    refine ae_then ?_
                    refine aw_false rfl ?_
                    refine aw_skip ?_
                    refine ae_then ?_
                    refine aw_seq ?_
                    refine aw_reg [] [6] [] [I 0] [] [] (by kernel_rfl) hB trivial ?_
                    refine ae_then ?_
                    refine aw_ret ?_
                    refine ae_ret hB (I 0) (by kernel_rfl) (.inl (by refine congrArg I ?_; first | exact (chk_1 (by simp [*])).symm | exact (chk_2 (by assumption) (by assumption) (by assumption) (by omega)).symm | exact (chk_5 (by assumption) (by assumption) (by assumption) (by omega) (by omega)).symm | exact (chk_0 (by assumption) (by assumption) (by assumption) (by omega) (by omega)).symm)) rfl (fun _ => trivial)
              · refine aw_reg [(4, .call [(true, I e.From), (true, I 0), (true, I e.To)] true (Bv true)), (14, .dec false), (19, .dec true), (25, .dec true)] [0, 2, 4, 48] [4] [.ptr false [Sv l.Text, I l.X, I l.Y, I l.Cell], Sv insert, .ref 4 0, Bv true] [some (.box [I e.Kind, I e.From, I e.To])] [Con Tryd.prog 36 [I e.From, I 0, I e.To] true (Bv true) ∧ ((I e.From : AV) = I e.From) ∧ ((I 0 : AV) = I 0) ∧ ((I e.To : AV) = I e.To) ∧ True, ¬ ((l.Text.size : Int) < e.To), e.Kind = 3, e.From ≠ e.To] (by kernel_rfl) hB ⟨⟨(con_bool h4 (l00In_ok e.From 0 e.To)), rfl, rfl, rfl, trivial⟩, h5, h6, h7, trivial⟩ ?_
                refine ae_then ?_
                refine aw_true rfl ?_
                refine aw_seq ?_
                refine aw_reg [] [6] [] [I 2] [] [] (by kernel_rfl) hB trivial ?_
                refine ae_then ?_
                refine aw_ret ?_
                refine ae_ret_then ?_
                refine ae_ret hB (I 2) (by kernel_rfl) (.inl (by refine congrArg I ?_; first | exact (chk_1 (by simp [*])).symm | exact (chk_2 (by assumption) (by assumption) (by assumption) (by omega)).symm | exact (chk_5 (by assumption) (by assumption) (by assumption) (by omega) (by omega)).symm | exact (chk_0 (by assumption) (by assumption) (by assumption) (by omega) (by omega)).symm)) rfl (fun _ => trivial)
            · refine aw_reg [(4, .call [(true, I e.From), (true, I 0), (true, I e.To)] true (Bv true)), (14, .dec false), (19, .dec false)] [0, 2, 4, 48] [4] [.ptr false [Sv l.Text, I l.X, I l.Y, I l.Cell], Sv insert, .ref 4 0, Bv false] [some (.box [I e.Kind, I e.From, I e.To])] [Con Tryd.prog 36 [I e.From, I 0, I e.To] true (Bv true) ∧ ((I e.From : AV) = I e.From) ∧ ((I 0 : AV) = I 0) ∧ ((I e.To : AV) = I e.To) ∧ True, ¬ ((l.Text.size : Int) < e.To), ¬ (e.Kind = 3)] (by kernel_rfl) hB ⟨⟨(con_bool h4 (l00In_ok e.From 0 e.To)), rfl, rfl, rfl, trivial⟩, h5, h6, trivial⟩ ?_
              refine ae_then ?_
              refine aw_false rfl ?_
              refine aw_skip ?_
              refine ae_then ?_
              refine aw_seq ?_
              refine aw_seq ?_
              by_cases h10 : e.Kind = 1
              · refine aw_reg [(2, .dec false)] [68] [] [Bv false] [] [¬ (e.Kind ≠ 1)] (by kernel_rfl) hB ⟨(fun hq => hq h10), trivial⟩ ?_
                refine ae_then ?_
                refine aw_false rfl ?_
                refine aw_skip ?_
                refine ae_then ?_
                refine aw_seq ?_
                refine aw_reg [] [6] [] [I 0] [] [] (by kernel_rfl) hB trivial ?_
                refine ae_then ?_
                refine aw_ret ?_
                refine ae_ret hB (I 0) (by kernel_rfl) (.inl (by refine congrArg I ?_; first | exact (chk_1 (by simp [*])).symm | exact (chk_2 (by assumption) (by assumption) (by assumption) (by omega)).symm | exact (chk_5 (by assumption) (by assumption) (by assumption) (by omega) (by omega)).symm | exact (chk_0 (by assumption) (by assumption) (by assumption) (by omega) (by omega)).symm)) rfl (fun _ => trivial)
              · by_cases h11 : 60 < (((l.Text.size : Int) + (insert.size : Int)) - (e.To - e.From))
                · refine aw_reg [(2, .dec true), (18, .dec true)] [68] [] [Bv true] [] [e.Kind ≠ 1, inR .i64 ((l.Text.size : Int) + (insert.size : Int)), inR .i64 (e.To - e.From), inR .i64 (((l.Text.size : Int) + (insert.size : Int)) - (e.To - e.From)), 60 < (((l.Text.size : Int) + (insert.size : Int)) - (e.To - e.From))] (by kernel_rfl) hB ⟨h10, (inR_i64 (by omega) (by omega)), (inR_i64 (by omega) (by omega)), (inR_i64 (by omega) (by omega)), h11, trivial⟩ ?_
                  refine ae_then ?_
                  refine aw_true rfl ?_
                  refine aw_seq ?_
                  refine aw_reg [] [6] [] [I 5] [] [] (by kernel_rfl) hB trivial ?_
                  refine ae_then ?_
                  refine aw_ret ?_
                  refine ae_ret_then ?_
                  refine ae_ret hB (I 5) (by kernel_rfl) (.inl (by refine congrArg I ?_; first | exact (chk_1 (by simp [*])).symm | exact (chk_2 (by assumption) (by assumption) (by assumption) (by omega)).symm | exact (chk_5 (by assumption) (by assumption) (by assumption) (by omega) (by omega)).symm | exact (chk_0 (by assumption) (by assumption) (by assumption) (by omega) (by omega)).symm)) rfl (fun _ => trivial)
                · refine aw_reg [(2, .dec true), (18, .dec false)] [68] [] [Bv false] [] [e.Kind ≠ 1, inR .i64 ((l.Text.size : Int) + (insert.size : Int)), inR .i64 (e.To - e.From), inR .i64 (((l.Text.size : Int) + (insert.size : Int)) - (e.To - e.From)), ¬ (60 < (((l.Text.size : Int) + (insert.size : Int)) - (e.To - e.From)))] (by kernel_rfl) hB ⟨h10, (inR_i64 (by omega) (by omega)), (inR_i64 (by omega) (by omega)), (inR_i64 (by omega) (by omega)), h11, trivial⟩ ?_
                  refine ae_then ?_
                  refine aw_false rfl ?_
                  refine aw_skip ?_
                  refine ae_then ?_
                  refine aw_seq ?_
                  refine aw_reg [] [6] [] [I 0] [] [] (by kernel_rfl) hB trivial ?_
                  refine ae_then ?_
                  refine aw_ret ?_
                  refine ae_ret hB (I 0) (by kernel_rfl) (.inl (by refine congrArg I ?_; first | exact (chk_1 (by simp [*])).symm | exact (chk_2 (by assumption) (by assumption) (by assumption) (by omega)).symm | exact (chk_5 (by assumption) (by assumption) (by assumption) (by omega) (by omega)).symm | exact (chk_0 (by assumption) (by assumption) (by assumption) (by omega) (by omega)).symm)) rfl (fun _ => trivial)
        · have hinh4 := (not_congr inB_iff).1 (Bool.eq_false_iff.1 h4)
          refine aw_reg [(4, .call [(true, I e.From), (true, I 0), (true, I e.To)] true (Bv false))] [0, 2, 4, 48] [4] [.ptr false [Sv l.Text, I l.X, I l.Y, I l.Cell], Sv insert, .ref 4 0, Bv true] [some (.box [I e.Kind, I e.From, I e.To])] [Con Tryd.prog 36 [I e.From, I 0, I e.To] true (Bv false) ∧ ((I e.From : AV) = I e.From) ∧ ((I 0 : AV) = I 0) ∧ ((I e.To : AV) = I e.To) ∧ True] (by kernel_rfl) hB ⟨⟨(con_bool h4 (l00In_ok e.From 0 e.To)), rfl, rfl, rfl, trivial⟩, trivial⟩ ?_
          refine ae_then ?_
          refine aw_true rfl ?_
          refine aw_seq ?_
          refine aw_reg [] [6] [] [I 2] [] [] (by kernel_rfl) hB trivial ?_
          refine ae_then ?_
          refine aw_ret ?_
          refine ae_ret_then ?_
          refine ae_ret hB (I 2) (by kernel_rfl) (.inl (by refine congrArg I ?_; first | exact (chk_1 (by simp [*])).symm | exact (chk_2 (by assumption) (by assumption) (by assumption) (by omega)).symm | exact (chk_5 (by assumption) (by assumption) (by assumption) (by omega) (by omega)).symm | exact (chk_0 (by assumption) (by assumption) (by assumption) (by omega) (by omega)).symm)) rfl (fun _ => trivial)
      · have hinh3 := (not_congr inB_iff).1 (Bool.eq_false_iff.1 h3)
        refine aw_reg [(1, .call [(true, .ptr false [Sv l.Text, I l.X, I l.Y, I l.Cell])] true (Bv true)), (5, .call [(true, Sv insert)] true (Bv true)), (11, .call [(true, I e.Kind), (true, I 1), (true, I 3)] true (Bv false))] [0, 2, 4, 20] [4] [.ptr false [Sv l.Text, I l.X, I l.Y, I l.Cell], Sv insert, .ref 4 0, Bv true] [some (.box [I e.Kind, I e.From, I e.To])] [Con Tryd.prog 32 [.ptr false [Sv l.Text, I l.X, I l.Y, I l.Cell]] true (Bv true) ∧ ((.ptr false [Sv l.Text, I l.X, I l.Y, I l.Cell] : AV) = .ptr false [Sv l.Text, I l.X, I l.Y, I l.Cell]) ∧ True, Con Tryd.prog 50 [Sv insert] true (Bv true) ∧ ((Sv insert : AV) = Sv insert) ∧ True, Con Tryd.prog 36 [I e.Kind, I 1, I 3] true (Bv false) ∧ ((I e.Kind : AV) = I e.Kind) ∧ ((I 1 : AV) = I 1) ∧ ((I 3 : AV) = I 3) ∧ True] (by kernel_rfl) hB ⟨⟨(con_bool h1 (l23Ok_ok l okl)), rfl, trivial⟩, ⟨(con_bool h2 (l23Letters_ok insert (by omega))), rfl, trivial⟩, ⟨(con_bool h3 (l00In_ok e.Kind 1 3)), rfl, rfl, rfl, trivial⟩, trivial⟩ ?_
        refine ae_then ?_
        refine aw_true rfl ?_
        refine aw_seq ?_
        refine aw_reg [] [6] [] [I 1] [] [] (by kernel_rfl) hB trivial ?_
        refine ae_then ?_
        refine aw_ret ?_
        refine ae_ret_then ?_
        refine ae_ret hB (I 1) (by kernel_rfl) (.inl (by refine congrArg I ?_; first | exact (chk_1 (by simp [*])).symm | exact (chk_2 (by assumption) (by assumption) (by assumption) (by omega)).symm | exact (chk_5 (by assumption) (by assumption) (by assumption) (by omega) (by omega)).symm | exact (chk_0 (by assumption) (by assumption) (by assumption) (by omega) (by omega)).symm)) rfl (fun _ => trivial)
    · refine aw_reg [(1, .call [(true, .ptr false [Sv l.Text, I l.X, I l.Y, I l.Cell])] true (Bv true)), (5, .call [(true, Sv insert)] true (Bv false))] [0, 2, 4, 20] [4] [.ptr false [Sv l.Text, I l.X, I l.Y, I l.Cell], Sv insert, .ref 4 0, Bv true] [some (.box [I e.Kind, I e.From, I e.To])] [Con Tryd.prog 32 [.ptr false [Sv l.Text, I l.X, I l.Y, I l.Cell]] true (Bv true) ∧ ((.ptr false [Sv l.Text, I l.X, I l.Y, I l.Cell] : AV) = .ptr false [Sv l.Text, I l.X, I l.Y, I l.Cell]) ∧ True, Con Tryd.prog 50 [Sv insert] true (Bv false) ∧ ((Sv insert : AV) = Sv insert) ∧ True] (by kernel_rfl) hB ⟨⟨(con_bool h1 (l23Ok_ok l okl)), rfl, trivial⟩, ⟨(con_bool h2 (l23Letters_ok insert (by omega))), rfl, trivial⟩, trivial⟩ ?_
      refine ae_then ?_
      refine aw_true rfl ?_
      refine aw_seq ?_
      refine aw_reg [] [6] [] [I 1] [] [] (by kernel_rfl) hB trivial ?_
      refine ae_then ?_
      refine aw_ret ?_
      refine ae_ret_then ?_
      refine ae_ret hB (I 1) (by kernel_rfl) (.inl (by refine congrArg I ?_; first | exact (chk_1 (by simp [*])).symm | exact (chk_2 (by assumption) (by assumption) (by assumption) (by omega)).symm | exact (chk_5 (by assumption) (by assumption) (by assumption) (by omega) (by omega)).symm | exact (chk_0 (by assumption) (by assumption) (by assumption) (by omega) (by omega)).symm)) rfl (fun _ => trivial)
  · refine aw_reg [(1, .call [(true, .ptr false [Sv l.Text, I l.X, I l.Y, I l.Cell])] true (Bv false))] [0, 2, 4, 20] [4] [.ptr false [Sv l.Text, I l.X, I l.Y, I l.Cell], Sv insert, .ref 4 0, Bv true] [some (.box [I e.Kind, I e.From, I e.To])] [Con Tryd.prog 32 [.ptr false [Sv l.Text, I l.X, I l.Y, I l.Cell]] true (Bv false) ∧ ((.ptr false [Sv l.Text, I l.X, I l.Y, I l.Cell] : AV) = .ptr false [Sv l.Text, I l.X, I l.Y, I l.Cell]) ∧ True] (by kernel_rfl) hB ⟨⟨(con_bool h1 (l23Ok_ok l okl)), rfl, trivial⟩, trivial⟩ ?_
    refine ae_then ?_
    refine aw_true rfl ?_
    refine aw_seq ?_
    refine aw_reg [] [6] [] [I 1] [] [] (by kernel_rfl) hB trivial ?_
    refine ae_then ?_
    refine aw_ret ?_
    refine ae_ret_then ?_
    refine ae_ret hB (I 1) (by kernel_rfl) (.inl (by refine congrArg I ?_; first | exact (chk_1 (by simp [*])).symm | exact (chk_2 (by assumption) (by assumption) (by assumption) (by omega)).symm | exact (chk_5 (by assumption) (by assumption) (by assumption) (by omega) (by omega)).symm | exact (chk_0 (by assumption) (by assumption) (by assumption) (by omega) (by omega)).symm)) rfl (fun _ => trivial)


-- spec.l23Apply
theorem l23Apply_ok (l : CellRow) (e : Edit) (insert : ByteArray) (okl : l.Text.size ≤ 9223372036854775807) (oki : insert.size ≤ 1048576) (hck0 : chkI l e insert = 0) : Con Tryd.prog 39 [.agg [Sv l.Text, I l.X, I l.Y, I l.Cell], .agg [I e.Kind, I e.From, I e.To], Sv insert] true (.agg [Sv ((applyL l e insert).Text), I ((applyL l e insert).X), I ((applyL l e insert).Y), I ((applyL l e insert).Cell)]) := by
  have hck := chk_ok hck0
  have hr := okRow_iff.1 hck.1
  refine fn_ok (fn := Tryd.f39) (nt := 25) Tryd.func39 rfl rfl rfl rfl (by simp [taggedL, tagged]) fun B hB => ?_
  refine aw_seq ?_
  refine aw_reg [(0, .new 3), (1, .new 4), (2, .new 6)] [2, 3, 4, 6] [3, 4, 6] [Sv insert, .ref 3 0, .ref 4 0, .ref 6 0] [some (.box [Sv l.Text, I l.X, I l.Y, I l.Cell]), some (.box [I e.Kind, I e.From, I e.To]), some (.box [Sv (⟨#[]⟩ : ByteArray), I 0, I 0, I 0])] [] (by kernel_rfl) hB trivial ?_
  refine ae_then ?_
  refine aw_seq ?_
  refine aw_seq ?_
  by_cases h1 : e.Kind = 1
  · refine aw_reg [(2, .dec true)] [2, 3, 4, 6, 9] [3, 4, 6] [Sv insert, .ref 3 0, .ref 4 0, .ref 6 0, Bv true] [some (.box [Sv l.Text, I l.X, I l.Y, I l.Cell]), some (.box [I e.Kind, I e.From, I e.To]), some (.box [Sv (⟨#[]⟩ : ByteArray), I 0, I 0, I 0])] [e.Kind = 1] (by kernel_rfl) hB ⟨h1, trivial⟩ ?_
    refine ae_then ?_
    refine aw_true rfl ?_
    refine aw_reg [] [2, 3, 4, 6] [3, 4, 6] [Sv (⟨#[]⟩ : ByteArray), .ref 3 0, .ref 4 0, .ref 6 0] [some (.box [Sv l.Text, I l.X, I l.Y, I l.Cell]), some (.box [I e.Kind, I e.From, I e.To]), some (.box [Sv (⟨#[]⟩ : ByteArray), I 0, I 0, I 0])] [] (by kernel_rfl) hB trivial ?_
    refine ae_then ?_
    refine aw_seq ?_
    refine aw_reg [] [3, 6] [3, 6] [.ref 3 0, .ref 6 0] [some (.box [Sv (((l.Text.extract 0 e.From.toNat) ++ (⟨#[]⟩ : ByteArray)) ++ (l.Text.extract e.To.toNat (l.Text.size : Int).toNat)), I l.X, I l.Y, I l.Cell]), some (.box [Sv (⟨#[]⟩ : ByteArray), I 0, I 0, I 0])] [(0 : Int) ≤ 0 ∧ (0 : Int) ≤ e.From ∧ e.From ≤ (l.Text.size : Int), (l.Text.extract 0 e.From.toNat).size + (⟨#[]⟩ : ByteArray).size ≤ 9223372036854775807, (0 : Int) ≤ e.To ∧ e.To ≤ (l.Text.size : Int) ∧ (l.Text.size : Int) ≤ (l.Text.size : Int), ((l.Text.extract 0 e.From.toNat) ++ (⟨#[]⟩ : ByteArray)).size + (l.Text.extract e.To.toNat (l.Text.size : Int).toNat).size ≤ 9223372036854775807] (by kernel_rfl) hB ⟨⟨(by omega), (by omega), (by omega)⟩, (by first | omega | (simp only [ByteArray.size_append, ba_ext, ba_nil]; omega)), ⟨(by omega), (by omega), (by omega)⟩, (by first | omega | (simp only [ByteArray.size_append, ba_ext, ba_nil]; omega)), trivial⟩ ?_
    refine ae_then ?_
    refine aw_seq ?_
    refine aw_reg [] [6] [6] [.ref 6 0] [some (.box [Sv (((l.Text.extract 0 e.From.toNat) ++ (⟨#[]⟩ : ByteArray)) ++ (l.Text.extract e.To.toNat (l.Text.size : Int).toNat)), I l.X, I l.Y, I l.Cell])] [] (by kernel_rfl) hB trivial ?_
    refine ae_then ?_
    refine aw_ret ?_
    refine ae_ret hB (.agg [Sv (((l.Text.extract 0 e.From.toNat) ++ (⟨#[]⟩ : ByteArray)) ++ (l.Text.extract e.To.toNat (l.Text.size : Int).toNat)), I l.X, I l.Y, I l.Cell]) (by kernel_rfl) (.inl (by simp [applyL, applyT, *])) rfl (fun _ => (by simp [tagged, taggedL]))
  · refine aw_reg [(2, .dec false)] [2, 3, 4, 6, 9] [3, 4, 6] [Sv insert, .ref 3 0, .ref 4 0, .ref 6 0, Bv false] [some (.box [Sv l.Text, I l.X, I l.Y, I l.Cell]), some (.box [I e.Kind, I e.From, I e.To]), some (.box [Sv (⟨#[]⟩ : ByteArray), I 0, I 0, I 0])] [¬ (e.Kind = 1)] (by kernel_rfl) hB ⟨h1, trivial⟩ ?_
    refine ae_then ?_
    refine aw_false rfl ?_
    refine aw_skip ?_
    refine ae_then ?_
    refine aw_seq ?_
    refine aw_reg [] [3, 6] [3, 6] [.ref 3 0, .ref 6 0] [some (.box [Sv (((l.Text.extract 0 e.From.toNat) ++ insert) ++ (l.Text.extract e.To.toNat (l.Text.size : Int).toNat)), I l.X, I l.Y, I l.Cell]), some (.box [Sv (⟨#[]⟩ : ByteArray), I 0, I 0, I 0])] [(0 : Int) ≤ 0 ∧ (0 : Int) ≤ e.From ∧ e.From ≤ (l.Text.size : Int), (l.Text.extract 0 e.From.toNat).size + insert.size ≤ 9223372036854775807, (0 : Int) ≤ e.To ∧ e.To ≤ (l.Text.size : Int) ∧ (l.Text.size : Int) ≤ (l.Text.size : Int), ((l.Text.extract 0 e.From.toNat) ++ insert).size + (l.Text.extract e.To.toNat (l.Text.size : Int).toNat).size ≤ 9223372036854775807] (by kernel_rfl) hB ⟨⟨(by omega), (by omega), (by omega)⟩, (by first | omega | (simp only [ByteArray.size_append, ba_ext, ba_nil]; omega)), ⟨(by omega), (by omega), (by omega)⟩, (by first | omega | (simp only [ByteArray.size_append, ba_ext, ba_nil]; omega)), trivial⟩ ?_
    refine ae_then ?_
    refine aw_seq ?_
    refine aw_reg [] [6] [6] [.ref 6 0] [some (.box [Sv (((l.Text.extract 0 e.From.toNat) ++ insert) ++ (l.Text.extract e.To.toNat (l.Text.size : Int).toNat)), I l.X, I l.Y, I l.Cell])] [] (by kernel_rfl) hB trivial ?_
    refine ae_then ?_
    refine aw_ret ?_
    refine ae_ret hB (.agg [Sv (((l.Text.extract 0 e.From.toNat) ++ insert) ++ (l.Text.extract e.To.toNat (l.Text.size : Int).toNat)), I l.X, I l.Y, I l.Cell]) (by kernel_rfl) (.inl (by simp [applyL, applyT, *])) rfl (fun _ => (by simp [tagged, taggedL]))


theorem app_list (a b : ByteArray) : (a ++ b).data.toList = a.data.toList ++ b.data.toList := by simp [ByteArray.data_append]
theorem ext_mem {s : ByteArray} {a b : Nat} {x : UInt8} (h : x ∈ (s.extract a b).data.toList) : x ∈ s.data.toList := by
  rw [ByteArray.data_extract, Array.toList_extract] at h
  simp only [List.extract_eq_take_drop] at h
  exact List.mem_of_mem_drop (List.mem_of_mem_take h)
theorem applyL_ok {l : CellRow} {e : Edit} {ins : ByteArray} (h : chkI l e ins = 0) : okRow (applyL l e ins) = true := by
  have hck := chk_ok h
  have hr := okRow_iff.1 hck.1
  refine okRow_iff.2 ⟨?_, ?_, hr.2.2⟩
  · rw [lettersB_iff]
    intro x hx
    have h1 := lettersB_iff.1 hr.1
    have h2 := lettersB_iff.1 hck.2.1
    simp only [applyL, applyT, app_list, List.mem_append] at hx
    rcases hx with (hx | hx) | hx
    · exact h1 x (ext_mem hx)
    · split at hx
      · simp at hx
      · exact h2 x hx
    · exact h1 x (ext_mem hx)
  · simp only [applyL, applyT, ByteArray.size_append, ba_ext]
    split
    · simp only [ba_nil]; omega
    · omega

/-- A line behind the first k strokes, and how many edits there were; none where an edit does not fit. -/
def runG (l0 : CellRow) (xs : List Stroke) (ins : ByteArray) : Nat → Option (CellRow × Int)
  | 0 => some (l0, 0)
  | k + 1 => match runG l0 xs ins k with
    | none => none
    | some (l, n) => if (editOfR l (at_ xs k)).2 = 0 then (if chkI l (editOfR l (at_ xs k)).1 ins = 0 then some (applyL l (editOfR l (at_ xs k)).1 ins, n + 1) else none) else some (l, n)
section
variable {l0 l : CellRow} {xs : List Stroke} {ins : ByteArray} {i n : Int}
theorem runG_skip (h0 : 0 ≤ i) (h : runG l0 xs ins i.toNat = some (l, n)) (h2 : ¬ (editOfR l (at_ xs i.toNat)).2 = 0) : runG l0 xs ins (i + 1).toNat = some (l, n) := by
  have e : (i + 1).toNat = i.toNat + 1 := by omega
  rw [e, runG, h]; simp only [if_neg h2]
theorem runG_step (h0 : 0 ≤ i) (h : runG l0 xs ins i.toNat = some (l, n)) (h2 : (editOfR l (at_ xs i.toNat)).2 = 0) (h3 : chkI l (editOfR l (at_ xs i.toNat)).1 ins = 0) : runG l0 xs ins (i + 1).toNat = some (applyL l (editOfR l (at_ xs i.toNat)).1 ins, n + 1) := by
  have e : (i + 1).toNat = i.toNat + 1 := by omega
  rw [e, runG, h]; simp only [if_pos h2, if_pos h3]
theorem runG_full (h0 : 0 ≤ i) (h : runG l0 xs ins i.toNat = some (l, n)) (h2 : (editOfR l (at_ xs i.toNat)).2 = 0) (h3 : ¬ chkI l (editOfR l (at_ xs i.toNat)).1 ins = 0) : runG l0 xs ins (i.toNat + 1) = none := by
  rw [runG, h]; simp only [if_pos h2, if_neg h3]
theorem runG_none {k : Nat} (h : runG l0 xs ins k = none) : ∀ {m : Nat}, k ≤ m → runG l0 xs ins m = none := by
  intro m hm
  induction m with
  | zero => have : k = 0 := by omega
            subst this; exact h
  | succ m ih =>
    by_cases e : k = m + 1
    · rw [← e]; exact h
    · rw [runG, ih (by omega)]
end
def runOut : Option (CellRow × Int) → CellRow × Int × Int
  | some (l, n) => (l, n, 0)
  | none => (⟨⟨#[]⟩, 0, 0, 0⟩, 0, 5)
def runR (l : CellRow) (xs : List Stroke) (ins : ByteArray) : CellRow × Int × Int :=
  if okRow l = true ∧ lettersB ins = true ∧ allN xs.length (fun j => okStroke' (at_ xs j)) = true then runOut (runG l xs ins xs.length) else (⟨⟨#[]⟩, 0, 0, 0⟩, 0, 1)
theorem runR_no {l : CellRow} {xs : List Stroke} {ins : ByteArray} (h : ¬ (okRow l = true ∧ lettersB ins = true ∧ allN xs.length (fun j => okStroke' (at_ xs j)) = true)) : runR l xs ins = (⟨⟨#[]⟩, 0, 0, 0⟩, 0, 1) := if_neg h
theorem runR_yes {l : CellRow} {xs : List Stroke} {ins : ByteArray} (h1 : okRow l = true) (h2 : lettersB ins = true) (h3 : allN xs.length (fun j => okStroke' (at_ xs j)) = true) : runR l xs ins = runOut (runG l xs ins xs.length) := if_pos ⟨h1, h2, h3⟩

-- spec.RunGestures
set_option maxHeartbeats 2000000 in
theorem specRunGestures_ok (l : CellRow) (strokes : List Stroke) (insert : ByteArray) (okl : l.Text.size ≤ 9223372036854775807) (oki : insert.size ≤ 1048576) : Con Tryd.prog 28 [.agg [Sv l.Text, I l.X, I l.Y, I l.Cell], slStroke false strokes, Sv insert] true (.tup [.agg [Sv (((runR l strokes insert).1).Text), I (((runR l strokes insert).1).X), I (((runR l strokes insert).1).Y), I (((runR l strokes insert).1).Cell)], I ((runR l strokes insert).2.1), I ((runR l strokes insert).2.2)]) := by
  refine fn_ok (fn := Tryd.f28) (nt := 62) Tryd.func28 rfl rfl rfl rfl (by simp [taggedL, tagged, tagStroke]) fun B hB => ?_
  refine aw_lens (x := slStroke false strokes) 1 rfl (fun len_strokes => ?_)
  simp [LenOK, LenL, cPoint, cStroke, fPoint, fStroke, slPoint, slStroke] at len_strokes
  refine aw_seq ?_
  refine aw_reg [(0, .new 3), (1, .new 6)] [1, 2, 3, 6] [3, 6] [slStroke false strokes, Sv insert, .ref 3 0, .ref 6 0] [some (.box [Sv l.Text, I l.X, I l.Y, I l.Cell]), some (.box [Sv (⟨#[]⟩ : ByteArray), I 0, I 0, I 0])] [] (by kernel_rfl) hB trivial ?_
  refine ae_then ?_
  refine aw_seq ?_
  refine aw_seq ?_
  rcases Bool.eq_false_or_eq_true (okRow l) with h1 | h1
  · rcases Bool.eq_false_or_eq_true (lettersB insert) with h2 | h2
    · refine aw_reg [(0, .call [(false, .ptr false [Sv l.Text, I l.X, I l.Y, I l.Cell])] true (Bv true)), (4, .call [(true, Sv insert)] true (Bv true))] [1, 2, 3, 6, 20] [3, 6] [slStroke false strokes, Sv insert, .ref 3 0, .ref 6 0, Bv false] [some (.box [Sv l.Text, I l.X, I l.Y, I l.Cell]), some (.box [Sv (⟨#[]⟩ : ByteArray), I 0, I 0, I 0])] [Con Tryd.prog 32 [.ptr false [Sv l.Text, I l.X, I l.Y, I l.Cell]] true (Bv true) ∧ ((false = true → true = true) ∧ AV.idsL [Sv l.Text, I l.X, I l.Y, I l.Cell] = [] ∧ (valOf (Sv l.Text) = valOf (Sv l.Text)) ∧ (valOf (I l.X) = valOf (I l.X)) ∧ (valOf (I l.Y) = valOf (I l.Y)) ∧ (valOf (I l.Cell) = valOf (I l.Cell)) ∧ ([] : List AV) = []) ∧ True, Con Tryd.prog 50 [Sv insert] true (Bv true) ∧ ((Sv insert : AV) = Sv insert) ∧ True] (by kernel_rfl) hB ⟨⟨(con_bool h1 (l23Ok_ok l okl)), ⟨(fun h => by cases h), rfl, ⟨rfl, ⟨rfl, ⟨rfl, ⟨rfl, rfl⟩⟩⟩⟩⟩, trivial⟩, ⟨(con_bool h2 (l23Letters_ok insert (by omega))), rfl, trivial⟩, trivial⟩ ?_
      refine ae_then ?_
      refine aw_false rfl ?_
      refine aw_skip ?_
      refine ae_then ?_
      refine aw_seq ?_
      refine aw_seq ?_
      refine aw_reg [] [1, 2, 3, 6, 9] [3, 6] [slStroke false strokes, Sv insert, .ref 3 0, .ref 6 0, I 0] [some (.box [Sv l.Text, I l.X, I l.Y, I l.Cell]), some (.box [Sv (⟨#[]⟩ : ByteArray), I 0, I 0, I 0])] [] (by kernel_rfl) hB trivial ?_
      refine ae_then ?_
      refine aw_block ?_
      refine aw_loop (fun gn gσ => ∃ (i : Int) (b6_0 : ByteArray) (b6_1 : Int) (b6_2 : Int) (b6_3 : Int), gn = ((strokes.length : Int) - i).toNat ∧ (0 ≤ i ∧ i ≤ (strokes.length : Int)) ∧ (∀ j : Nat, (j : Int) < i → okStroke' (at_ strokes j) = true) ∧ gσ = mkS [(1, slStroke false strokes), (2, Sv insert), (3, .ref 3 0), (6, .ref 6 0), (9, I i)] [(3, .box [Sv l.Text, I l.X, I l.Y, I l.Cell]), (6, .box [Sv b6_0, I b6_1, I b6_2, I b6_3])]) (((strokes.length : Int) - 0).toNat) ⟨0, (⟨#[]⟩ : ByteArray), 0, 0, 0, rfl, (by omega), (by intro j hj; omega), rfl⟩ (fun gn gσ hI => ?_)
      obtain ⟨i, b6_0, b6_1, b6_2, b6_3, rfl, hi0, hall0, rfl⟩ := hI
      refine aw_seq ?_
      refine aw_seq ?_
      by_cases h3 : i < (strokes.length : Int)
      · have hi : i.toNat < strokes.length := by omega
        refine aw_reg [(3, .dec true)] [1, 2, 3, 6, 9, 25] [3, 6] [slStroke false strokes, Sv insert, .ref 3 0, .ref 6 0, I i, Bv true] [some (.box [Sv l.Text, I l.X, I l.Y, I l.Cell]), some (.box [Sv b6_0, I b6_1, I b6_2, I b6_3])] [i < (strokes.length : Int)] (by kernel_rfl) hB ⟨h3, trivial⟩ ?_
        refine ae_then ?_
        refine aw_true rfl ?_
        refine aw_skip ?_
        refine ae_then ?_
        refine aw_seq ?_
        refine aw_block ?_
        refine aw_seq ?_
        rcases Bool.eq_false_or_eq_true (okStroke' (at_ strokes i.toNat)) with h4 | h4
        · refine aw_reg [(3, .call [(true, .ptr false [slPoint false ((at_ strokes i.toNat).Points)])] true (Bv true))] [1, 2, 3, 6, 9, 32] [3, 6] [slStroke false strokes, Sv insert, .ref 3 0, .ref 6 0, I i, Bv false] [some (.box [Sv l.Text, I l.X, I l.Y, I l.Cell]), some (.box [Sv b6_0, I b6_1, I b6_2, I b6_3])] [(0 : Int) ≤ i ∧ i < (strokes.length : Int), Con Tryd.prog 41 [.ptr false [slPoint false ((at_ strokes i.toNat).Points)]] true (Bv true) ∧ ((.ptr false [slPoint false ((at_ strokes i.toNat).Points)] : AV) = .ptr false [slPoint false ((at_ strokes i.toNat).Points)]) ∧ True] (by kernel_rfl) hB ⟨⟨(by omega), (by omega)⟩, ⟨(con_bool h4 (l02Stroke_ok (at_ strokes i.toNat))), rfl, trivial⟩, trivial⟩ ?_
          refine ae_then ?_
          refine aw_false rfl ?_
          refine aw_skip ?_
          refine ae_block 1 ?_
          refine ae_then ?_
          refine aw_reg [] [1, 2, 3, 6, 9] [3, 6] [slStroke false strokes, Sv insert, .ref 3 0, .ref 6 0, I (i + 1)] [some (.box [Sv l.Text, I l.X, I l.Y, I l.Cell]), some (.box [Sv b6_0, I b6_1, I b6_2, I b6_3])] [inR .i64 (i + 1)] (by kernel_rfl) hB ⟨(inR_i64 (by omega) (by omega)), trivial⟩ ?_
          exact ae_again _ (by omega) ⟨(i + 1), b6_0, b6_1, b6_2, b6_3, rfl, (by omega), (by intro j hj; by_cases ej : j = i.toNat; (subst ej; first | assumption | exact hok); exact hall0 j (by omega)), rfl⟩
        · have hall : allN strokes.length (fun j => okStroke' (at_ strokes j)) = false := allN_not hi h4
          refine aw_reg [(3, .call [(true, .ptr false [slPoint false ((at_ strokes i.toNat).Points)])] true (Bv false))] [1, 2, 3, 6, 9, 32] [3, 6] [slStroke false strokes, Sv insert, .ref 3 0, .ref 6 0, I i, Bv true] [some (.box [Sv l.Text, I l.X, I l.Y, I l.Cell]), some (.box [Sv b6_0, I b6_1, I b6_2, I b6_3])] [(0 : Int) ≤ i ∧ i < (strokes.length : Int), Con Tryd.prog 41 [.ptr false [slPoint false ((at_ strokes i.toNat).Points)]] true (Bv false) ∧ ((.ptr false [slPoint false ((at_ strokes i.toNat).Points)] : AV) = .ptr false [slPoint false ((at_ strokes i.toNat).Points)]) ∧ True] (by kernel_rfl) hB ⟨⟨(by omega), (by omega)⟩, ⟨(con_bool h4 (l02Stroke_ok (at_ strokes i.toNat))), rfl, trivial⟩, trivial⟩ ?_
          refine ae_then ?_
          refine aw_true rfl ?_
          refine aw_seq ?_
          refine aw_reg [] [6, 7, 8] [6] [.ref 6 0, I 0, I 1] [some (.box [Sv (⟨#[]⟩ : ByteArray), I 0, I 0, I 0])] [] (by kernel_rfl) hB trivial ?_
          refine ae_then ?_
          refine aw_ret ?_
          refine ae_ret_block (ae_ret_then (ae_ret_then (ae_ret_block (ae_ret_then ?_))))
          refine ae_ret hB (.tup [.agg [Sv (⟨#[]⟩ : ByteArray), I 0, I 0, I 0], I 0, I 1]) (by kernel_rfl) (.inl (by first | (rw [runR_yes (by assumption) (by assumption) (by assumption), hg1]; rfl) | (rw [runR_yes (by assumption) (by assumption) (by assumption), hfull]; rfl) | (rw [runR_no (by simp [*])]; done))) rfl (fun _ => (by simp [tagged, taggedL]))
      · have hall : allN strokes.length (fun j => okStroke' (at_ strokes j)) = true := allN_at (fun j hj => hall0 j (by omega))
        refine aw_reg [(3, .dec false)] [1, 2, 3, 6, 9, 25] [3, 6] [slStroke false strokes, Sv insert, .ref 3 0, .ref 6 0, I i, Bv false] [some (.box [Sv l.Text, I l.X, I l.Y, I l.Cell]), some (.box [Sv b6_0, I b6_1, I b6_2, I b6_3])] [¬ (i < (strokes.length : Int))] (by kernel_rfl) hB ⟨h3, trivial⟩ ?_
        refine ae_then ?_
        refine aw_false rfl ?_
        refine aw_exit ?_
        refine ae_exit_then ?_
        refine ae_exit_then ?_
        refine ae_exit_same ?_
        refine ae_then ?_
        refine aw_seq ?_
        refine aw_reg [] [1, 2, 3, 6, 10] [3, 6] [slStroke false strokes, Sv insert, .ref 3 0, .ref 6 0, I 0] [some (.box [Sv l.Text, I l.X, I l.Y, I l.Cell]), some (.box [Sv b6_0, I b6_1, I b6_2, I b6_3])] [] (by kernel_rfl) hB trivial ?_
        refine ae_then ?_
        refine aw_seq ?_
        refine aw_seq ?_
        refine aw_reg [] [1, 2, 3, 6, 10, 11] [3, 6] [slStroke false strokes, Sv insert, .ref 3 0, .ref 6 0, I 0, I 0] [some (.box [Sv l.Text, I l.X, I l.Y, I l.Cell]), some (.box [Sv b6_0, I b6_1, I b6_2, I b6_3])] [] (by kernel_rfl) hB trivial ?_
        refine ae_then ?_
        refine aw_block ?_
        refine aw_loop (fun gn gσ => ∃ (n : Int) (i' : Int) (b6_0' : ByteArray) (b6_1' : Int) (b6_2' : Int) (b6_3' : Int) (tx_ : ByteArray) (lx_ : Int) (ly_ : Int) (lc_ : Int), gn = ((strokes.length : Int) - i').toNat ∧ (0 ≤ i' ∧ i' ≤ (strokes.length : Int)) ∧ (runG l strokes insert i'.toNat = some ((CellRow.mk tx_ lx_ ly_ lc_), n)) ∧ (okRow (CellRow.mk tx_ lx_ ly_ lc_) = true) ∧ (0 ≤ n ∧ n ≤ i') ∧ gσ = mkS [(1, slStroke false strokes), (2, Sv insert), (3, .ref 3 0), (6, .ref 6 0), (10, I n), (11, I i')] [(3, .box [Sv tx_, I lx_, I ly_, I lc_]), (6, .box [Sv b6_0', I b6_1', I b6_2', I b6_3'])]) (((strokes.length : Int) - 0).toNat) ⟨0, 0, b6_0, b6_1, b6_2, b6_3, l.Text, l.X, l.Y, l.Cell, rfl, (by omega), (by rfl), (by assumption), (by omega), rfl⟩ (fun gn gσ hI => ?_)
        obtain ⟨n, i', b6_0', b6_1', b6_2', b6_3', tx_, lx_, ly_, lc_, rfl, hj0, hg1, hg2, hg3, rfl⟩ := hI
        refine aw_seq ?_
        refine aw_seq ?_
        by_cases h5 : i' < (strokes.length : Int)
        · have hi : i'.toNat < strokes.length := by omega
          have hst := allN_get hall (k := i'.toNat) hi
          have hrr := okRow_iff.1 hg2
          have hrs : tx_.size ≤ 9223372036854775807 := by have := hrr.2.1; simp only at this; omega
          have hee := editOf_eq (s := at_ strokes i'.toNat) hg2 hst
          refine aw_reg [(3, .dec true)] [1, 2, 3, 6, 10, 11, 37] [3, 6] [slStroke false strokes, Sv insert, .ref 3 0, .ref 6 0, I n, I i', Bv true] [some (.box [Sv tx_, I lx_, I ly_, I lc_]), some (.box [Sv b6_0', I b6_1', I b6_2', I b6_3'])] [i' < (strokes.length : Int)] (by kernel_rfl) hB ⟨h5, trivial⟩ ?_
          refine ae_then ?_
          refine aw_true rfl ?_
          refine aw_skip ?_
          refine ae_then ?_
          refine aw_seq ?_
          refine aw_block ?_
          refine aw_seq ?_
          refine aw_reg [(3, .call [(false, .ptr false [Sv tx_, I lx_, I ly_, I lc_]), (true, .ptr false [slPoint false ((at_ strokes i'.toNat).Points)])] true (.tup [.agg [I (((editR (CellRow.mk tx_ lx_ ly_ lc_) (at_ strokes i'.toNat)).1).Kind), I (((editR (CellRow.mk tx_ lx_ ly_ lc_) (at_ strokes i'.toNat)).1).From), I (((editR (CellRow.mk tx_ lx_ ly_ lc_) (at_ strokes i'.toNat)).1).To)], I ((editR (CellRow.mk tx_ lx_ ly_ lc_) (at_ strokes i'.toNat)).2)])), (7, .new 12)] [1, 2, 3, 6, 10, 11, 12, 13] [3, 6, 12] [slStroke false strokes, Sv insert, .ref 3 0, .ref 6 0, I n, I i', .ref 12 0, I ((editR (CellRow.mk tx_ lx_ ly_ lc_) (at_ strokes i'.toNat)).2)] [some (.box [Sv tx_, I lx_, I ly_, I lc_]), some (.box [Sv b6_0', I b6_1', I b6_2', I b6_3']), some (.box [I (((editR (CellRow.mk tx_ lx_ ly_ lc_) (at_ strokes i'.toNat)).1).Kind), I (((editR (CellRow.mk tx_ lx_ ly_ lc_) (at_ strokes i'.toNat)).1).From), I (((editR (CellRow.mk tx_ lx_ ly_ lc_) (at_ strokes i'.toNat)).1).To)])] [(0 : Int) ≤ i' ∧ i' < (strokes.length : Int), Con Tryd.prog 42 [.ptr false [Sv tx_, I lx_, I ly_, I lc_], .ptr false [slPoint false ((at_ strokes i'.toNat).Points)]] true (.tup [.agg [I (((editR (CellRow.mk tx_ lx_ ly_ lc_) (at_ strokes i'.toNat)).1).Kind), I (((editR (CellRow.mk tx_ lx_ ly_ lc_) (at_ strokes i'.toNat)).1).From), I (((editR (CellRow.mk tx_ lx_ ly_ lc_) (at_ strokes i'.toNat)).1).To)], I ((editR (CellRow.mk tx_ lx_ ly_ lc_) (at_ strokes i'.toNat)).2)]) ∧ ((false = true → true = true) ∧ AV.idsL [Sv tx_, I lx_, I ly_, I lc_] = [] ∧ (valOf (Sv tx_) = valOf (Sv tx_)) ∧ (valOf (I lx_) = valOf (I lx_)) ∧ (valOf (I ly_) = valOf (I ly_)) ∧ (valOf (I lc_) = valOf (I lc_)) ∧ ([] : List AV) = []) ∧ ((.ptr false [slPoint false ((at_ strokes i'.toNat).Points)] : AV) = .ptr false [slPoint false ((at_ strokes i'.toNat).Points)]) ∧ True] (by kernel_rfl) hB ⟨⟨(by omega), (by omega)⟩, ⟨(l23Edit_ok (CellRow.mk tx_ lx_ ly_ lc_) (at_ strokes i'.toNat) hg2 hst), ⟨(fun h => by cases h), rfl, ⟨rfl, ⟨rfl, ⟨rfl, ⟨rfl, rfl⟩⟩⟩⟩⟩, rfl, trivial⟩, trivial⟩ ?_
          refine ae_then ?_
          refine aw_seq ?_
          refine aw_seq ?_
          by_cases h6 : ((editR (CellRow.mk tx_ lx_ ly_ lc_) (at_ strokes i'.toNat)).2) = 0
          · have qh6 := h6
            rw [← hee] at qh6
            refine aw_reg [(1, .dec false)] [1, 2, 3, 6, 10, 11, 12, 48] [3, 6, 12] [slStroke false strokes, Sv insert, .ref 3 0, .ref 6 0, I n, I i', .ref 12 0, Bv false] [some (.box [Sv tx_, I lx_, I ly_, I lc_]), some (.box [Sv b6_0', I b6_1', I b6_2', I b6_3']), some (.box [I (((editR (CellRow.mk tx_ lx_ ly_ lc_) (at_ strokes i'.toNat)).1).Kind), I (((editR (CellRow.mk tx_ lx_ ly_ lc_) (at_ strokes i'.toNat)).1).From), I (((editR (CellRow.mk tx_ lx_ ly_ lc_) (at_ strokes i'.toNat)).1).To)])] [¬ (((editR (CellRow.mk tx_ lx_ ly_ lc_) (at_ strokes i'.toNat)).2) ≠ 0)] (by kernel_rfl) hB ⟨(fun hq => hq h6), trivial⟩ ?_
            refine ae_then ?_
            refine aw_false rfl ?_
            refine aw_skip ?_
            refine ae_then ?_
            refine aw_seq ?_
            refine aw_seq ?_
            by_cases h7 : (chkI (CellRow.mk tx_ lx_ ly_ lc_) ((editR (CellRow.mk tx_ lx_ ly_ lc_) (at_ strokes i'.toNat)).1) insert) = 0
            · have qh7 := h7
              rw [← hee] at qh7
              have hstep := runG_step hj0.1 hg1 (by assumption) qh7
              have hokn := applyL_ok qh7
              rw [hee] at hstep hokn
              refine aw_reg [(2, .call [(false, .ptr false [Sv tx_, I lx_, I ly_, I lc_]), (true, .agg [I (((editR (CellRow.mk tx_ lx_ ly_ lc_) (at_ strokes i'.toNat)).1).Kind), I (((editR (CellRow.mk tx_ lx_ ly_ lc_) (at_ strokes i'.toNat)).1).From), I (((editR (CellRow.mk tx_ lx_ ly_ lc_) (at_ strokes i'.toNat)).1).To)]), (true, Sv insert)] true (I (chkI (CellRow.mk tx_ lx_ ly_ lc_) ((editR (CellRow.mk tx_ lx_ ly_ lc_) (at_ strokes i'.toNat)).1) insert))), (3, .dec false)] [1, 2, 3, 6, 10, 11, 12, 52] [3, 6, 12] [slStroke false strokes, Sv insert, .ref 3 0, .ref 6 0, I n, I i', .ref 12 0, Bv false] [some (.box [Sv tx_, I lx_, I ly_, I lc_]), some (.box [Sv b6_0', I b6_1', I b6_2', I b6_3']), some (.box [I (((editR (CellRow.mk tx_ lx_ ly_ lc_) (at_ strokes i'.toNat)).1).Kind), I (((editR (CellRow.mk tx_ lx_ ly_ lc_) (at_ strokes i'.toNat)).1).From), I (((editR (CellRow.mk tx_ lx_ ly_ lc_) (at_ strokes i'.toNat)).1).To)])] [Con Tryd.prog 38 [.ptr false [Sv tx_, I lx_, I ly_, I lc_], .agg [I (((editR (CellRow.mk tx_ lx_ ly_ lc_) (at_ strokes i'.toNat)).1).Kind), I (((editR (CellRow.mk tx_ lx_ ly_ lc_) (at_ strokes i'.toNat)).1).From), I (((editR (CellRow.mk tx_ lx_ ly_ lc_) (at_ strokes i'.toNat)).1).To)], Sv insert] true (I (chkI (CellRow.mk tx_ lx_ ly_ lc_) ((editR (CellRow.mk tx_ lx_ ly_ lc_) (at_ strokes i'.toNat)).1) insert)) ∧ ((false = true → true = true) ∧ AV.idsL [Sv tx_, I lx_, I ly_, I lc_] = [] ∧ (valOf (Sv tx_) = valOf (Sv tx_)) ∧ (valOf (I lx_) = valOf (I lx_)) ∧ (valOf (I ly_) = valOf (I ly_)) ∧ (valOf (I lc_) = valOf (I lc_)) ∧ ([] : List AV) = []) ∧ ((.agg [I (((editR (CellRow.mk tx_ lx_ ly_ lc_) (at_ strokes i'.toNat)).1).Kind), I (((editR (CellRow.mk tx_ lx_ ly_ lc_) (at_ strokes i'.toNat)).1).From), I (((editR (CellRow.mk tx_ lx_ ly_ lc_) (at_ strokes i'.toNat)).1).To)] : AV) = .agg [I (((editR (CellRow.mk tx_ lx_ ly_ lc_) (at_ strokes i'.toNat)).1).Kind), I (((editR (CellRow.mk tx_ lx_ ly_ lc_) (at_ strokes i'.toNat)).1).From), I (((editR (CellRow.mk tx_ lx_ ly_ lc_) (at_ strokes i'.toNat)).1).To)]) ∧ ((Sv insert : AV) = Sv insert) ∧ True, ¬ ((chkI (CellRow.mk tx_ lx_ ly_ lc_) ((editR (CellRow.mk tx_ lx_ ly_ lc_) (at_ strokes i'.toNat)).1) insert) ≠ 0)] (by kernel_rfl) hB ⟨⟨(l23Check_ok (CellRow.mk tx_ lx_ ly_ lc_) ((editR (CellRow.mk tx_ lx_ ly_ lc_) (at_ strokes i'.toNat)).1) insert hrs oki), ⟨(fun h => by cases h), rfl, ⟨rfl, ⟨rfl, ⟨rfl, ⟨rfl, rfl⟩⟩⟩⟩⟩, rfl, rfl, trivial⟩, (fun hq => hq h7), trivial⟩ ?_
              refine ae_then ?_
              refine aw_false rfl ?_
              refine aw_skip ?_
              refine ae_then ?_
              refine aw_seq ?_
              refine aw_reg [(3, .call [(true, .agg [Sv tx_, I lx_, I ly_, I lc_]), (true, .agg [I (((editR (CellRow.mk tx_ lx_ ly_ lc_) (at_ strokes i'.toNat)).1).Kind), I (((editR (CellRow.mk tx_ lx_ ly_ lc_) (at_ strokes i'.toNat)).1).From), I (((editR (CellRow.mk tx_ lx_ ly_ lc_) (at_ strokes i'.toNat)).1).To)]), (true, Sv insert)] true (.agg [Sv ((applyL (CellRow.mk tx_ lx_ ly_ lc_) ((editR (CellRow.mk tx_ lx_ ly_ lc_) (at_ strokes i'.toNat)).1) insert).Text), I ((applyL (CellRow.mk tx_ lx_ ly_ lc_) ((editR (CellRow.mk tx_ lx_ ly_ lc_) (at_ strokes i'.toNat)).1) insert).X), I ((applyL (CellRow.mk tx_ lx_ ly_ lc_) ((editR (CellRow.mk tx_ lx_ ly_ lc_) (at_ strokes i'.toNat)).1) insert).Y), I ((applyL (CellRow.mk tx_ lx_ ly_ lc_) ((editR (CellRow.mk tx_ lx_ ly_ lc_) (at_ strokes i'.toNat)).1) insert).Cell)]))] [1, 2, 3, 6, 10, 11] [3, 6] [slStroke false strokes, Sv insert, .ref 3 0, .ref 6 0, I n, I i'] [some (.box [Sv ((applyL (CellRow.mk tx_ lx_ ly_ lc_) ((editR (CellRow.mk tx_ lx_ ly_ lc_) (at_ strokes i'.toNat)).1) insert).Text), I ((applyL (CellRow.mk tx_ lx_ ly_ lc_) ((editR (CellRow.mk tx_ lx_ ly_ lc_) (at_ strokes i'.toNat)).1) insert).X), I ((applyL (CellRow.mk tx_ lx_ ly_ lc_) ((editR (CellRow.mk tx_ lx_ ly_ lc_) (at_ strokes i'.toNat)).1) insert).Y), I ((applyL (CellRow.mk tx_ lx_ ly_ lc_) ((editR (CellRow.mk tx_ lx_ ly_ lc_) (at_ strokes i'.toNat)).1) insert).Cell)]), some (.box [Sv b6_0', I b6_1', I b6_2', I b6_3'])] [Con Tryd.prog 39 [.agg [Sv tx_, I lx_, I ly_, I lc_], .agg [I (((editR (CellRow.mk tx_ lx_ ly_ lc_) (at_ strokes i'.toNat)).1).Kind), I (((editR (CellRow.mk tx_ lx_ ly_ lc_) (at_ strokes i'.toNat)).1).From), I (((editR (CellRow.mk tx_ lx_ ly_ lc_) (at_ strokes i'.toNat)).1).To)], Sv insert] true (.agg [Sv ((applyL (CellRow.mk tx_ lx_ ly_ lc_) ((editR (CellRow.mk tx_ lx_ ly_ lc_) (at_ strokes i'.toNat)).1) insert).Text), I ((applyL (CellRow.mk tx_ lx_ ly_ lc_) ((editR (CellRow.mk tx_ lx_ ly_ lc_) (at_ strokes i'.toNat)).1) insert).X), I ((applyL (CellRow.mk tx_ lx_ ly_ lc_) ((editR (CellRow.mk tx_ lx_ ly_ lc_) (at_ strokes i'.toNat)).1) insert).Y), I ((applyL (CellRow.mk tx_ lx_ ly_ lc_) ((editR (CellRow.mk tx_ lx_ ly_ lc_) (at_ strokes i'.toNat)).1) insert).Cell)]) ∧ ((.agg [Sv tx_, I lx_, I ly_, I lc_] : AV) = .agg [Sv tx_, I lx_, I ly_, I lc_]) ∧ ((.agg [I (((editR (CellRow.mk tx_ lx_ ly_ lc_) (at_ strokes i'.toNat)).1).Kind), I (((editR (CellRow.mk tx_ lx_ ly_ lc_) (at_ strokes i'.toNat)).1).From), I (((editR (CellRow.mk tx_ lx_ ly_ lc_) (at_ strokes i'.toNat)).1).To)] : AV) = .agg [I (((editR (CellRow.mk tx_ lx_ ly_ lc_) (at_ strokes i'.toNat)).1).Kind), I (((editR (CellRow.mk tx_ lx_ ly_ lc_) (at_ strokes i'.toNat)).1).From), I (((editR (CellRow.mk tx_ lx_ ly_ lc_) (at_ strokes i'.toNat)).1).To)]) ∧ ((Sv insert : AV) = Sv insert) ∧ True] (by kernel_rfl) hB ⟨⟨(l23Apply_ok (CellRow.mk tx_ lx_ ly_ lc_) ((editR (CellRow.mk tx_ lx_ ly_ lc_) (at_ strokes i'.toNat)).1) insert hrs oki (by assumption)), rfl, rfl, rfl, trivial⟩, trivial⟩ ?_
              refine ae_then ?_
              refine aw_reg [] [1, 2, 3, 6, 10, 11] [3, 6] [slStroke false strokes, Sv insert, .ref 3 0, .ref 6 0, I (n + 1), I i'] [some (.box [Sv ((applyL (CellRow.mk tx_ lx_ ly_ lc_) ((editR (CellRow.mk tx_ lx_ ly_ lc_) (at_ strokes i'.toNat)).1) insert).Text), I ((applyL (CellRow.mk tx_ lx_ ly_ lc_) ((editR (CellRow.mk tx_ lx_ ly_ lc_) (at_ strokes i'.toNat)).1) insert).X), I ((applyL (CellRow.mk tx_ lx_ ly_ lc_) ((editR (CellRow.mk tx_ lx_ ly_ lc_) (at_ strokes i'.toNat)).1) insert).Y), I ((applyL (CellRow.mk tx_ lx_ ly_ lc_) ((editR (CellRow.mk tx_ lx_ ly_ lc_) (at_ strokes i'.toNat)).1) insert).Cell)]), some (.box [Sv b6_0', I b6_1', I b6_2', I b6_3'])] [inR .i64 (n + 1)] (by kernel_rfl) hB ⟨(inR_i64 (by omega) (by omega)), trivial⟩ ?_
              refine ae_block 3 ?_
              refine ae_then ?_
              refine aw_reg [] [1, 2, 3, 6, 10, 11] [3, 6] [slStroke false strokes, Sv insert, .ref 3 0, .ref 6 0, I (n + 1), I (i' + 1)] [some (.box [Sv ((applyL (CellRow.mk tx_ lx_ ly_ lc_) ((editR (CellRow.mk tx_ lx_ ly_ lc_) (at_ strokes i'.toNat)).1) insert).Text), I ((applyL (CellRow.mk tx_ lx_ ly_ lc_) ((editR (CellRow.mk tx_ lx_ ly_ lc_) (at_ strokes i'.toNat)).1) insert).X), I ((applyL (CellRow.mk tx_ lx_ ly_ lc_) ((editR (CellRow.mk tx_ lx_ ly_ lc_) (at_ strokes i'.toNat)).1) insert).Y), I ((applyL (CellRow.mk tx_ lx_ ly_ lc_) ((editR (CellRow.mk tx_ lx_ ly_ lc_) (at_ strokes i'.toNat)).1) insert).Cell)]), some (.box [Sv b6_0', I b6_1', I b6_2', I b6_3'])] [inR .i64 (i' + 1)] (by kernel_rfl) hB ⟨(inR_i64 (by omega) (by omega)), trivial⟩ ?_
              exact ae_again _ (by omega) ⟨(n + 1), (i' + 1), b6_0', b6_1', b6_2', b6_3', (applyL (CellRow.mk tx_ lx_ ly_ lc_) ((editR (CellRow.mk tx_ lx_ ly_ lc_) (at_ strokes i'.toNat)).1) insert).Text, (applyL (CellRow.mk tx_ lx_ ly_ lc_) ((editR (CellRow.mk tx_ lx_ ly_ lc_) (at_ strokes i'.toNat)).1) insert).X, (applyL (CellRow.mk tx_ lx_ ly_ lc_) ((editR (CellRow.mk tx_ lx_ ly_ lc_) (at_ strokes i'.toNat)).1) insert).Y, (applyL (CellRow.mk tx_ lx_ ly_ lc_) ((editR (CellRow.mk tx_ lx_ ly_ lc_) (at_ strokes i'.toNat)).1) insert).Cell, rfl, (by omega), (by first | exact runG_skip hj0.1 hg1 (by assumption) | exact hstep), (by first | exact hg2 | exact hokn), (by omega), rfl⟩
            · have qh7 := h7
              rw [← hee] at qh7
              have hfull := runG_none (runG_full hj0.1 hg1 (by assumption) qh7) (m := strokes.length) (by omega)
              refine aw_reg [(2, .call [(false, .ptr false [Sv tx_, I lx_, I ly_, I lc_]), (true, .agg [I (((editR (CellRow.mk tx_ lx_ ly_ lc_) (at_ strokes i'.toNat)).1).Kind), I (((editR (CellRow.mk tx_ lx_ ly_ lc_) (at_ strokes i'.toNat)).1).From), I (((editR (CellRow.mk tx_ lx_ ly_ lc_) (at_ strokes i'.toNat)).1).To)]), (true, Sv insert)] true (I (chkI (CellRow.mk tx_ lx_ ly_ lc_) ((editR (CellRow.mk tx_ lx_ ly_ lc_) (at_ strokes i'.toNat)).1) insert))), (3, .dec true)] [1, 2, 3, 6, 10, 11, 12, 52] [3, 6, 12] [slStroke false strokes, Sv insert, .ref 3 0, .ref 6 0, I n, I i', .ref 12 0, Bv true] [some (.box [Sv tx_, I lx_, I ly_, I lc_]), some (.box [Sv b6_0', I b6_1', I b6_2', I b6_3']), some (.box [I (((editR (CellRow.mk tx_ lx_ ly_ lc_) (at_ strokes i'.toNat)).1).Kind), I (((editR (CellRow.mk tx_ lx_ ly_ lc_) (at_ strokes i'.toNat)).1).From), I (((editR (CellRow.mk tx_ lx_ ly_ lc_) (at_ strokes i'.toNat)).1).To)])] [Con Tryd.prog 38 [.ptr false [Sv tx_, I lx_, I ly_, I lc_], .agg [I (((editR (CellRow.mk tx_ lx_ ly_ lc_) (at_ strokes i'.toNat)).1).Kind), I (((editR (CellRow.mk tx_ lx_ ly_ lc_) (at_ strokes i'.toNat)).1).From), I (((editR (CellRow.mk tx_ lx_ ly_ lc_) (at_ strokes i'.toNat)).1).To)], Sv insert] true (I (chkI (CellRow.mk tx_ lx_ ly_ lc_) ((editR (CellRow.mk tx_ lx_ ly_ lc_) (at_ strokes i'.toNat)).1) insert)) ∧ ((false = true → true = true) ∧ AV.idsL [Sv tx_, I lx_, I ly_, I lc_] = [] ∧ (valOf (Sv tx_) = valOf (Sv tx_)) ∧ (valOf (I lx_) = valOf (I lx_)) ∧ (valOf (I ly_) = valOf (I ly_)) ∧ (valOf (I lc_) = valOf (I lc_)) ∧ ([] : List AV) = []) ∧ ((.agg [I (((editR (CellRow.mk tx_ lx_ ly_ lc_) (at_ strokes i'.toNat)).1).Kind), I (((editR (CellRow.mk tx_ lx_ ly_ lc_) (at_ strokes i'.toNat)).1).From), I (((editR (CellRow.mk tx_ lx_ ly_ lc_) (at_ strokes i'.toNat)).1).To)] : AV) = .agg [I (((editR (CellRow.mk tx_ lx_ ly_ lc_) (at_ strokes i'.toNat)).1).Kind), I (((editR (CellRow.mk tx_ lx_ ly_ lc_) (at_ strokes i'.toNat)).1).From), I (((editR (CellRow.mk tx_ lx_ ly_ lc_) (at_ strokes i'.toNat)).1).To)]) ∧ ((Sv insert : AV) = Sv insert) ∧ True, (chkI (CellRow.mk tx_ lx_ ly_ lc_) ((editR (CellRow.mk tx_ lx_ ly_ lc_) (at_ strokes i'.toNat)).1) insert) ≠ 0] (by kernel_rfl) hB ⟨⟨(l23Check_ok (CellRow.mk tx_ lx_ ly_ lc_) ((editR (CellRow.mk tx_ lx_ ly_ lc_) (at_ strokes i'.toNat)).1) insert hrs oki), ⟨(fun h => by cases h), rfl, ⟨rfl, ⟨rfl, ⟨rfl, ⟨rfl, rfl⟩⟩⟩⟩⟩, rfl, rfl, trivial⟩, h7, trivial⟩ ?_
              refine ae_then ?_
              refine aw_true rfl ?_
              refine aw_seq ?_
              refine aw_reg [] [6, 7, 8] [6] [.ref 6 0, I 0, I 5] [some (.box [Sv (⟨#[]⟩ : ByteArray), I 0, I 0, I 0])] [] (by kernel_rfl) hB trivial ?_
              refine ae_then ?_
              refine aw_ret ?_
              refine ae_ret_then (ae_ret_block (ae_ret_then (ae_ret_then (ae_ret_block (ae_ret_then ?_)))))
              refine ae_ret hB (.tup [.agg [Sv (⟨#[]⟩ : ByteArray), I 0, I 0, I 0], I 0, I 5]) (by kernel_rfl) (.inl (by first | (rw [runR_yes (by assumption) (by assumption) (by assumption), hg1]; rfl) | (rw [runR_yes (by assumption) (by assumption) (by assumption), hfull]; rfl) | (rw [runR_no (by simp [*])]; done))) rfl (fun _ => (by simp [tagged, taggedL]))
          · have qh6 := h6
            rw [← hee] at qh6
            refine aw_reg [(1, .dec true)] [1, 2, 3, 6, 10, 11, 12, 48] [3, 6, 12] [slStroke false strokes, Sv insert, .ref 3 0, .ref 6 0, I n, I i', .ref 12 0, Bv true] [some (.box [Sv tx_, I lx_, I ly_, I lc_]), some (.box [Sv b6_0', I b6_1', I b6_2', I b6_3']), some (.box [I (((editR (CellRow.mk tx_ lx_ ly_ lc_) (at_ strokes i'.toNat)).1).Kind), I (((editR (CellRow.mk tx_ lx_ ly_ lc_) (at_ strokes i'.toNat)).1).From), I (((editR (CellRow.mk tx_ lx_ ly_ lc_) (at_ strokes i'.toNat)).1).To)])] [((editR (CellRow.mk tx_ lx_ ly_ lc_) (at_ strokes i'.toNat)).2) ≠ 0] (by kernel_rfl) hB ⟨h6, trivial⟩ ?_
            refine ae_then ?_
            refine aw_true rfl ?_
            refine aw_exit ?_
            refine ae_exit_then ?_
            refine ae_exit_same ?_
            refine ae_then ?_
            refine aw_reg [] [1, 2, 3, 6, 10, 11] [3, 6] [slStroke false strokes, Sv insert, .ref 3 0, .ref 6 0, I n, I (i' + 1)] [some (.box [Sv tx_, I lx_, I ly_, I lc_]), some (.box [Sv b6_0', I b6_1', I b6_2', I b6_3'])] [inR .i64 (i' + 1)] (by kernel_rfl) hB ⟨(inR_i64 (by omega) (by omega)), trivial⟩ ?_
            exact ae_again _ (by omega) ⟨n, (i' + 1), b6_0', b6_1', b6_2', b6_3', tx_, lx_, ly_, lc_, rfl, (by omega), (by first | exact runG_skip hj0.1 hg1 (by assumption) | exact hstep), (by first | exact hg2 | exact hokn), (by omega), rfl⟩
        · have hie : i'.toNat = strokes.length := by omega
          rw [hie] at hg1
          refine aw_reg [(3, .dec false)] [1, 2, 3, 6, 10, 11, 37] [3, 6] [slStroke false strokes, Sv insert, .ref 3 0, .ref 6 0, I n, I i', Bv false] [some (.box [Sv tx_, I lx_, I ly_, I lc_]), some (.box [Sv b6_0', I b6_1', I b6_2', I b6_3'])] [¬ (i' < (strokes.length : Int))] (by kernel_rfl) hB ⟨h5, trivial⟩ ?_
          refine ae_then ?_
          refine aw_false rfl ?_
          refine aw_exit ?_
          refine ae_exit_then ?_
          refine ae_exit_then ?_
          refine ae_exit_same ?_
          refine ae_then ?_
          refine aw_seq ?_
          refine aw_reg [] [6, 7, 8] [6] [.ref 6 0, I n, I 0] [some (.box [Sv tx_, I lx_, I ly_, I lc_])] [] (by kernel_rfl) hB trivial ?_
          refine ae_then ?_
          refine aw_ret ?_
          refine ae_ret hB (.tup [.agg [Sv tx_, I lx_, I ly_, I lc_], I n, I 0]) (by kernel_rfl) (.inl (by first | (rw [runR_yes (by assumption) (by assumption) (by assumption), hg1]; rfl) | (rw [runR_yes (by assumption) (by assumption) (by assumption), hfull]; rfl) | (rw [runR_no (by simp [*])]; done))) rfl (fun _ => (by simp [tagged, taggedL]))
    · refine aw_reg [(0, .call [(false, .ptr false [Sv l.Text, I l.X, I l.Y, I l.Cell])] true (Bv true)), (4, .call [(true, Sv insert)] true (Bv false))] [1, 2, 3, 6, 20] [3, 6] [slStroke false strokes, Sv insert, .ref 3 0, .ref 6 0, Bv true] [some (.box [Sv l.Text, I l.X, I l.Y, I l.Cell]), some (.box [Sv (⟨#[]⟩ : ByteArray), I 0, I 0, I 0])] [Con Tryd.prog 32 [.ptr false [Sv l.Text, I l.X, I l.Y, I l.Cell]] true (Bv true) ∧ ((false = true → true = true) ∧ AV.idsL [Sv l.Text, I l.X, I l.Y, I l.Cell] = [] ∧ (valOf (Sv l.Text) = valOf (Sv l.Text)) ∧ (valOf (I l.X) = valOf (I l.X)) ∧ (valOf (I l.Y) = valOf (I l.Y)) ∧ (valOf (I l.Cell) = valOf (I l.Cell)) ∧ ([] : List AV) = []) ∧ True, Con Tryd.prog 50 [Sv insert] true (Bv false) ∧ ((Sv insert : AV) = Sv insert) ∧ True] (by kernel_rfl) hB ⟨⟨(con_bool h1 (l23Ok_ok l okl)), ⟨(fun h => by cases h), rfl, ⟨rfl, ⟨rfl, ⟨rfl, ⟨rfl, rfl⟩⟩⟩⟩⟩, trivial⟩, ⟨(con_bool h2 (l23Letters_ok insert (by omega))), rfl, trivial⟩, trivial⟩ ?_
      refine ae_then ?_
      refine aw_true rfl ?_
      refine aw_seq ?_
      refine aw_reg [] [6, 7, 8] [6] [.ref 6 0, I 0, I 1] [some (.box [Sv (⟨#[]⟩ : ByteArray), I 0, I 0, I 0])] [] (by kernel_rfl) hB trivial ?_
      refine ae_then ?_
      refine aw_ret ?_
      refine ae_ret_then ?_
      refine ae_ret hB (.tup [.agg [Sv (⟨#[]⟩ : ByteArray), I 0, I 0, I 0], I 0, I 1]) (by kernel_rfl) (.inl (by first | (rw [runR_yes (by assumption) (by assumption) (by assumption), hg1]; rfl) | (rw [runR_yes (by assumption) (by assumption) (by assumption), hfull]; rfl) | (rw [runR_no (by simp [*])]; done))) rfl (fun _ => (by simp [tagged, taggedL]))
  · refine aw_reg [(0, .call [(false, .ptr false [Sv l.Text, I l.X, I l.Y, I l.Cell])] true (Bv false))] [1, 2, 3, 6, 20] [3, 6] [slStroke false strokes, Sv insert, .ref 3 0, .ref 6 0, Bv true] [some (.box [Sv l.Text, I l.X, I l.Y, I l.Cell]), some (.box [Sv (⟨#[]⟩ : ByteArray), I 0, I 0, I 0])] [Con Tryd.prog 32 [.ptr false [Sv l.Text, I l.X, I l.Y, I l.Cell]] true (Bv false) ∧ ((false = true → true = true) ∧ AV.idsL [Sv l.Text, I l.X, I l.Y, I l.Cell] = [] ∧ (valOf (Sv l.Text) = valOf (Sv l.Text)) ∧ (valOf (I l.X) = valOf (I l.X)) ∧ (valOf (I l.Y) = valOf (I l.Y)) ∧ (valOf (I l.Cell) = valOf (I l.Cell)) ∧ ([] : List AV) = []) ∧ True] (by kernel_rfl) hB ⟨⟨(con_bool h1 (l23Ok_ok l okl)), ⟨(fun h => by cases h), rfl, ⟨rfl, ⟨rfl, ⟨rfl, ⟨rfl, rfl⟩⟩⟩⟩⟩, trivial⟩, trivial⟩ ?_
    refine ae_then ?_
    refine aw_true rfl ?_
    refine aw_seq ?_
    refine aw_reg [] [6, 7, 8] [6] [.ref 6 0, I 0, I 1] [some (.box [Sv (⟨#[]⟩ : ByteArray), I 0, I 0, I 0])] [] (by kernel_rfl) hB trivial ?_
    refine ae_then ?_
    refine aw_ret ?_
    refine ae_ret_then ?_
    refine ae_ret hB (.tup [.agg [Sv (⟨#[]⟩ : ByteArray), I 0, I 0, I 0], I 0, I 1]) (by kernel_rfl) (.inl (by first | (rw [runR_yes (by assumption) (by assumption) (by assumption), hg1]; rfl) | (rw [runR_yes (by assumption) (by assumption) (by assumption), hfull]; rfl) | (rw [runR_no (by simp [*])]; done))) rfl (fun _ => (by simp [tagged, taggedL]))


-- strings.Trim
theorem trim_ok (s t : ByteArray) (hs : s.size ≤ 9223372036854775807) (hcs : t.size < 4294967281) (ha : t.data.toList.all (fun b => decide (b.toNat < 128)) = true) : Con Tryd.prog 51 [Sv s, Sv t] true (Sv (trimB s t)) := by
  refine con_of_calls (vals := [.string s, .string t]) fun w => ?_
  refine (Any.strings_Trim_laid Tryd.lays160 (by kernel_rfl) s t w hs hcs (ascii_of_all ha)).mono ?_
  rintro e w' ⟨rfl, hb⟩
  exact ⟨rfl, hb⟩


-- impl.areCells
theorem areCells_ok (text : ByteArray) (ok : text.size ≤ 9223372036854775807) : Con Tryd.prog 33 [Sv text] true (Bv (lettersB text)) := by
  refine fn_ok (fn := Tryd.f33) (nt := 6) Tryd.func33 rfl rfl rfl rfl (by simp [taggedL, tagged]) fun B hB => ?_
  refine aw_seq ?_
  refine aw_reg [] [0] [] [Sv text] [] [] (by kernel_rfl) hB trivial ?_
  refine ae_then ?_
  refine aw_seq ?_
  refine aw_reg [(1, .call [(true, Sv text), (true, Sv (⟨#[97, 98, 99, 100, 101, 102, 103, 104, 105, 106, 107, 108, 109, 110, 111, 112, 113, 114, 115, 116, 117, 118, 119, 120, 121, 122, 48, 49, 50, 51, 52, 53, 54, 55, 56, 57, 32]⟩ : ByteArray))] true (Sv (trimB text (⟨#[97, 98, 99, 100, 101, 102, 103, 104, 105, 106, 107, 108, 109, 110, 111, 112, 113, 114, 115, 116, 117, 118, 119, 120, 121, 122, 48, 49, 50, 51, 52, 53, 54, 55, 56, 57, 32]⟩ : ByteArray))))] [2] [] [Bv (decide ((trimB text (⟨#[97, 98, 99, 100, 101, 102, 103, 104, 105, 106, 107, 108, 109, 110, 111, 112, 113, 114, 115, 116, 117, 118, 119, 120, 121, 122, 48, 49, 50, 51, 52, 53, 54, 55, 56, 57, 32]⟩ : ByteArray)) = (⟨#[]⟩ : ByteArray)))] [] [Con Tryd.prog 51 [Sv text, Sv (⟨#[97, 98, 99, 100, 101, 102, 103, 104, 105, 106, 107, 108, 109, 110, 111, 112, 113, 114, 115, 116, 117, 118, 119, 120, 121, 122, 48, 49, 50, 51, 52, 53, 54, 55, 56, 57, 32]⟩ : ByteArray)] true (Sv (trimB text (⟨#[97, 98, 99, 100, 101, 102, 103, 104, 105, 106, 107, 108, 109, 110, 111, 112, 113, 114, 115, 116, 117, 118, 119, 120, 121, 122, 48, 49, 50, 51, 52, 53, 54, 55, 56, 57, 32]⟩ : ByteArray))) ∧ ((Sv text : AV) = Sv text) ∧ ((Sv (⟨#[97, 98, 99, 100, 101, 102, 103, 104, 105, 106, 107, 108, 109, 110, 111, 112, 113, 114, 115, 116, 117, 118, 119, 120, 121, 122, 48, 49, 50, 51, 52, 53, 54, 55, 56, 57, 32]⟩ : ByteArray) : AV) = Sv (⟨#[97, 98, 99, 100, 101, 102, 103, 104, 105, 106, 107, 108, 109, 110, 111, 112, 113, 114, 115, 116, 117, 118, 119, 120, 121, 122, 48, 49, 50, 51, 52, 53, 54, 55, 56, 57, 32]⟩ : ByteArray)) ∧ True] (by kernel_rfl) hB ⟨⟨(trim_ok text (⟨#[97, 98, 99, 100, 101, 102, 103, 104, 105, 106, 107, 108, 109, 110, 111, 112, 113, 114, 115, 116, 117, 118, 119, 120, 121, 122, 48, 49, 50, 51, 52, 53, 54, 55, 56, 57, 32]⟩ : ByteArray) ok (by decide) (by decide)), rfl, rfl, trivial⟩, trivial⟩ ?_
  refine ae_then ?_
  refine aw_ret ?_
  refine ae_ret hB (Bv (decide ((trimB text (⟨#[97, 98, 99, 100, 101, 102, 103, 104, 105, 106, 107, 108, 109, 110, 111, 112, 113, 114, 115, 116, 117, 118, 119, 120, 121, 122, 48, 49, 50, 51, 52, 53, 54, 55, 56, 57, 32]⟩ : ByteArray)) = (⟨#[]⟩ : ByteArray)))) (by kernel_rfl) (.inl (by refine congrArg Bv ?_; rw [Bool.eq_iff_iff, decide_eq_true_iff]; exact trim_cells text)) rfl (fun _ => trivial)


-- impl.within
theorem within_ok (n : Int) (low : Int) (high : Int) : Con Tryd.prog 35 [I n, I low, I high] true (Bv (inB n low high)) := by
  refine fn_ok (fn := Tryd.f35) (nt := 15) Tryd.func35 rfl rfl rfl rfl (by simp [taggedL, tagged]) fun B hB => ?_
  refine aw_seq ?_
  refine aw_reg [] [0, 1, 2] [] [I n, I low, I high] [] [] (by kernel_rfl) hB trivial ?_
  refine ae_then ?_
  refine aw_seq ?_
  by_cases h1 : low ≤ n
  · refine aw_reg [(2, .dec true)] [6] [] [Bv (decide (n ≤ high))] [] [low ≤ n] (by kernel_rfl) hB ⟨h1, trivial⟩ ?_
    refine ae_then ?_
    refine aw_ret ?_
    refine ae_ret hB (Bv (decide (n ≤ high))) (by kernel_rfl) (.inl (by first | rfl | (refine congrArg Bv ?_; simp [inB, *]; done) | (refine congrArg Bv ?_; simp [inB, *]; omega) | (refine congrArg Bv ?_; simp_all [inB]; done) | (refine congrArg Bv ?_; simp_all [inB]; omega))) rfl (fun _ => trivial)
  · refine aw_reg [(2, .dec false)] [6] [] [Bv false] [] [¬ (low ≤ n)] (by kernel_rfl) hB ⟨h1, trivial⟩ ?_
    refine ae_then ?_
    refine aw_ret ?_
    refine ae_ret hB (Bv false) (by kernel_rfl) (.inl (by first | rfl | (refine congrArg Bv ?_; simp [inB, *]; done) | (refine congrArg Bv ?_; simp [inB, *]; omega) | (refine congrArg Bv ?_; simp_all [inB]; done) | (refine congrArg Bv ?_; simp_all [inB]; omega))) rfl (fun _ => trivial)


-- impl.isCoord
theorem isCoord_ok (n : Int) : Con Tryd.prog 34 [I n] true (Bv (inB n 0 4095)) := by
  refine fn_ok (fn := Tryd.f34) (nt := 5) Tryd.func34 rfl rfl rfl rfl (by simp [taggedL, tagged]) fun B hB => ?_
  refine aw_seq ?_
  refine aw_reg [] [0] [] [I n] [] [] (by kernel_rfl) hB trivial ?_
  refine ae_then ?_
  refine aw_seq ?_
  refine aw_reg [(1, .call [(true, I n), (true, I 0), (true, I 4095)] true (Bv (inB n 0 4095)))] [2] [] [Bv (inB n 0 4095)] [] [Con Tryd.prog 35 [I n, I 0, I 4095] true (Bv (inB n 0 4095)) ∧ ((I n : AV) = I n) ∧ ((I 0 : AV) = I 0) ∧ ((I 4095 : AV) = I 4095) ∧ True] (by kernel_rfl) hB ⟨⟨(within_ok n 0 4095), rfl, rfl, rfl, trivial⟩, trivial⟩ ?_
  refine ae_then ?_
  refine aw_ret ?_
  refine ae_ret hB (Bv (inB n 0 4095)) (by kernel_rfl) (.inl rfl) rfl (fun _ => trivial)


-- impl.ValidCellRow
theorem ValidCellRow_ok (l : CellRow) (ok : l.Text.size ≤ 9223372036854775807) : Con Tryd.prog 12 [.agg [Sv l.Text, I l.X, I l.Y, I l.Cell]] true (Bv (okRow l)) := by
  refine fn_ok (fn := Tryd.f12) (nt := 27) Tryd.func12 rfl rfl rfl rfl (by simp [taggedL, tagged]) fun B hB => ?_
  refine aw_seq ?_
  refine aw_reg [(0, .new 1)] [1] [1] [.ref 1 0] [some (.box [Sv l.Text, I l.X, I l.Y, I l.Cell])] [] (by kernel_rfl) hB trivial ?_
  refine ae_then ?_
  refine aw_seq ?_
  by_cases h1 : (l.Text.size : Int) ≤ 60
  · rcases Bool.eq_false_or_eq_true (lettersB l.Text) with h2 | h2
    · rcases Bool.eq_false_or_eq_true (inB l.X 0 4095) with h3 | h3
      · rcases Bool.eq_false_or_eq_true (inB l.Y 0 4095) with h4 | h4
        · refine aw_reg [(3, .dec true), (7, .call [(true, Sv l.Text)] true (Bv true)), (12, .call [(true, I l.X)] true (Bv true)), (17, .call [(true, I l.Y)] true (Bv true)), (22, .call [(true, I l.Cell), (true, I 2), (true, I 60)] true (Bv (inB l.Cell 2 60)))] [2] [] [Bv (inB l.Cell 2 60)] [] [(l.Text.size : Int) ≤ 60, Con Tryd.prog 33 [Sv l.Text] true (Bv true) ∧ ((Sv l.Text : AV) = Sv l.Text) ∧ True, Con Tryd.prog 34 [I l.X] true (Bv true) ∧ ((I l.X : AV) = I l.X) ∧ True, Con Tryd.prog 34 [I l.Y] true (Bv true) ∧ ((I l.Y : AV) = I l.Y) ∧ True, Con Tryd.prog 35 [I l.Cell, I 2, I 60] true (Bv (inB l.Cell 2 60)) ∧ ((I l.Cell : AV) = I l.Cell) ∧ ((I 2 : AV) = I 2) ∧ ((I 60 : AV) = I 60) ∧ True] (by kernel_rfl) hB ⟨h1, ⟨(con_bool h2 (areCells_ok l.Text ok)), rfl, trivial⟩, ⟨(con_bool h3 (isCoord_ok l.X)), rfl, trivial⟩, ⟨(con_bool h4 (isCoord_ok l.Y)), rfl, trivial⟩, ⟨(within_ok l.Cell 2 60), rfl, rfl, rfl, trivial⟩, trivial⟩ ?_
          refine ae_then ?_
          refine aw_ret ?_
          refine ae_ret hB (Bv (inB l.Cell 2 60)) (by kernel_rfl) (.inl (by first | rfl | (refine congrArg Bv ?_; simp [okRow, inB, *]; done) | (refine congrArg Bv ?_; simp [okRow, inB, *]; omega) | (refine congrArg Bv ?_; simp_all [okRow, inB]; done) | (refine congrArg Bv ?_; simp_all [okRow, inB]; omega))) rfl (fun _ => trivial)
        · refine aw_reg [(3, .dec true), (7, .call [(true, Sv l.Text)] true (Bv true)), (12, .call [(true, I l.X)] true (Bv true)), (17, .call [(true, I l.Y)] true (Bv false))] [2] [] [Bv false] [] [(l.Text.size : Int) ≤ 60, Con Tryd.prog 33 [Sv l.Text] true (Bv true) ∧ ((Sv l.Text : AV) = Sv l.Text) ∧ True, Con Tryd.prog 34 [I l.X] true (Bv true) ∧ ((I l.X : AV) = I l.X) ∧ True, Con Tryd.prog 34 [I l.Y] true (Bv false) ∧ ((I l.Y : AV) = I l.Y) ∧ True] (by kernel_rfl) hB ⟨h1, ⟨(con_bool h2 (areCells_ok l.Text ok)), rfl, trivial⟩, ⟨(con_bool h3 (isCoord_ok l.X)), rfl, trivial⟩, ⟨(con_bool h4 (isCoord_ok l.Y)), rfl, trivial⟩, trivial⟩ ?_
          refine ae_then ?_
          refine aw_ret ?_
          refine ae_ret hB (Bv false) (by kernel_rfl) (.inl (by first | rfl | (refine congrArg Bv ?_; simp [okRow, inB, *]; done) | (refine congrArg Bv ?_; simp [okRow, inB, *]; omega) | (refine congrArg Bv ?_; simp_all [okRow, inB]; done) | (refine congrArg Bv ?_; simp_all [okRow, inB]; omega))) rfl (fun _ => trivial)
      · refine aw_reg [(3, .dec true), (7, .call [(true, Sv l.Text)] true (Bv true)), (12, .call [(true, I l.X)] true (Bv false))] [2] [] [Bv false] [] [(l.Text.size : Int) ≤ 60, Con Tryd.prog 33 [Sv l.Text] true (Bv true) ∧ ((Sv l.Text : AV) = Sv l.Text) ∧ True, Con Tryd.prog 34 [I l.X] true (Bv false) ∧ ((I l.X : AV) = I l.X) ∧ True] (by kernel_rfl) hB ⟨h1, ⟨(con_bool h2 (areCells_ok l.Text ok)), rfl, trivial⟩, ⟨(con_bool h3 (isCoord_ok l.X)), rfl, trivial⟩, trivial⟩ ?_
        refine ae_then ?_
        refine aw_ret ?_
        refine ae_ret hB (Bv false) (by kernel_rfl) (.inl (by first | rfl | (refine congrArg Bv ?_; simp [okRow, inB, *]; done) | (refine congrArg Bv ?_; simp [okRow, inB, *]; omega) | (refine congrArg Bv ?_; simp_all [okRow, inB]; done) | (refine congrArg Bv ?_; simp_all [okRow, inB]; omega))) rfl (fun _ => trivial)
    · refine aw_reg [(3, .dec true), (7, .call [(true, Sv l.Text)] true (Bv false))] [2] [] [Bv false] [] [(l.Text.size : Int) ≤ 60, Con Tryd.prog 33 [Sv l.Text] true (Bv false) ∧ ((Sv l.Text : AV) = Sv l.Text) ∧ True] (by kernel_rfl) hB ⟨h1, ⟨(con_bool h2 (areCells_ok l.Text ok)), rfl, trivial⟩, trivial⟩ ?_
      refine ae_then ?_
      refine aw_ret ?_
      refine ae_ret hB (Bv false) (by kernel_rfl) (.inl (by first | rfl | (refine congrArg Bv ?_; simp [okRow, inB, *]; done) | (refine congrArg Bv ?_; simp [okRow, inB, *]; omega) | (refine congrArg Bv ?_; simp_all [okRow, inB]; done) | (refine congrArg Bv ?_; simp_all [okRow, inB]; omega))) rfl (fun _ => trivial)
  · refine aw_reg [(3, .dec false)] [2] [] [Bv false] [] [¬ ((l.Text.size : Int) ≤ 60)] (by kernel_rfl) hB ⟨h1, trivial⟩ ?_
    refine ae_then ?_
    refine aw_ret ?_
    refine ae_ret hB (Bv false) (by kernel_rfl) (.inl (by first | rfl | (refine congrArg Bv ?_; simp [okRow, inB, *]; done) | (refine congrArg Bv ?_; simp [okRow, inB, *]; omega) | (refine congrArg Bv ?_; simp_all [okRow, inB]; done) | (refine congrArg Bv ?_; simp_all [okRow, inB]; omega))) rfl (fun _ => trivial)


-- impl.validPoint
theorem validPoint_ok (p : Point) : Con Tryd.prog 59 [.agg [I p.X, I p.Y, I p.T]] true (Bv (okP p)) := by
  refine fn_ok (fn := Tryd.f59) (nt := 16) Tryd.func59 rfl rfl rfl rfl (by simp [taggedL, tagged]) fun B hB => ?_
  refine aw_seq ?_
  refine aw_reg [(0, .new 1)] [1] [1] [.ref 1 0] [some (.box [I p.X, I p.Y, I p.T])] [] (by kernel_rfl) hB trivial ?_
  refine ae_then ?_
  refine aw_seq ?_
  rcases Bool.eq_false_or_eq_true (inB p.X 0 4095) with h1 | h1
  · rcases Bool.eq_false_or_eq_true (inB p.Y 0 4095) with h2 | h2
    · refine aw_reg [(2, .call [(true, I p.X)] true (Bv true)), (6, .call [(true, I p.Y)] true (Bv true)), (11, .call [(true, I p.T), (true, I 0), (true, I 3600000)] true (Bv (inB p.T 0 3600000)))] [2] [] [Bv (inB p.T 0 3600000)] [] [Con Tryd.prog 34 [I p.X] true (Bv true) ∧ ((I p.X : AV) = I p.X) ∧ True, Con Tryd.prog 34 [I p.Y] true (Bv true) ∧ ((I p.Y : AV) = I p.Y) ∧ True, Con Tryd.prog 35 [I p.T, I 0, I 3600000] true (Bv (inB p.T 0 3600000)) ∧ ((I p.T : AV) = I p.T) ∧ ((I 0 : AV) = I 0) ∧ ((I 3600000 : AV) = I 3600000) ∧ True] (by kernel_rfl) hB ⟨⟨(con_bool h1 (isCoord_ok p.X)), rfl, trivial⟩, ⟨(con_bool h2 (isCoord_ok p.Y)), rfl, trivial⟩, ⟨(within_ok p.T 0 3600000), rfl, rfl, rfl, trivial⟩, trivial⟩ ?_
      refine ae_then ?_
      refine aw_ret ?_
      refine ae_ret hB (Bv (inB p.T 0 3600000)) (by kernel_rfl) (.inl (by first | rfl | (refine congrArg Bv ?_; simp [okP, *]; done) | (refine congrArg Bv ?_; simp [okP, *]; omega) | (refine congrArg Bv ?_; simp_all [okP]; done) | (refine congrArg Bv ?_; simp_all [okP]; omega))) rfl (fun _ => trivial)
    · refine aw_reg [(2, .call [(true, I p.X)] true (Bv true)), (6, .call [(true, I p.Y)] true (Bv false))] [2] [] [Bv false] [] [Con Tryd.prog 34 [I p.X] true (Bv true) ∧ ((I p.X : AV) = I p.X) ∧ True, Con Tryd.prog 34 [I p.Y] true (Bv false) ∧ ((I p.Y : AV) = I p.Y) ∧ True] (by kernel_rfl) hB ⟨⟨(con_bool h1 (isCoord_ok p.X)), rfl, trivial⟩, ⟨(con_bool h2 (isCoord_ok p.Y)), rfl, trivial⟩, trivial⟩ ?_
      refine ae_then ?_
      refine aw_ret ?_
      refine ae_ret hB (Bv false) (by kernel_rfl) (.inl (by first | rfl | (refine congrArg Bv ?_; simp [okP, *]; done) | (refine congrArg Bv ?_; simp [okP, *]; omega) | (refine congrArg Bv ?_; simp_all [okP]; done) | (refine congrArg Bv ?_; simp_all [okP]; omega))) rfl (fun _ => trivial)
  · refine aw_reg [(2, .call [(true, I p.X)] true (Bv false))] [2] [] [Bv false] [] [Con Tryd.prog 34 [I p.X] true (Bv false) ∧ ((I p.X : AV) = I p.X) ∧ True] (by kernel_rfl) hB ⟨⟨(con_bool h1 (isCoord_ok p.X)), rfl, trivial⟩, trivial⟩ ?_
    refine ae_then ?_
    refine aw_ret ?_
    refine ae_ret hB (Bv false) (by kernel_rfl) (.inl (by first | rfl | (refine congrArg Bv ?_; simp [okP, *]; done) | (refine congrArg Bv ?_; simp [okP, *]; omega) | (refine congrArg Bv ?_; simp_all [okP]; done) | (refine congrArg Bv ?_; simp_all [okP]; omega))) rfl (fun _ => trivial)


-- impl.ValidStroke
theorem ValidStroke_ok (s : Stroke) : Con Tryd.prog 44 [.agg [slPoint false s.Points]] true (Bv (okStroke' s)) := by
  refine fn_ok (fn := Tryd.f44) (nt := 43) Tryd.func44 rfl rfl rfl rfl (by simp [taggedL, tagged, tagPoint]) fun B hB => ?_
  refine aw_lens (x := .agg [slPoint false s.Points]) 0 rfl (fun len_s => ?_)
  simp [LenOK, LenL, cPoint, fPoint, slPoint] at len_s
  refine aw_seq ?_
  refine aw_reg [(0, .new 1)] [1] [1] [.ref 1 0] [some (.box [slPoint false s.Points])] [] (by kernel_rfl) hB trivial ?_
  refine ae_then ?_
  refine aw_seq ?_
  refine aw_seq ?_
  refine aw_reg [] [1, 6, 7, 8] [1] [.ref 1 0, slPoint false s.Points, I (s.Points.length : Int), I 0] [some (.box [slPoint false s.Points])] [] (by kernel_rfl) hB trivial ?_
  refine ae_then ?_
  refine aw_block ?_
  refine aw_loop (fun gn gσ => ∃ (t8 : Int), gn = ((s.Points.length : Int) - t8).toNat ∧ (0 ≤ t8 ∧ t8 ≤ (s.Points.length : Int)) ∧ (∀ j : Nat, (j : Int) < t8 → okPt s.Points j = true) ∧ gσ = mkS [(1, .ref 1 0), (6, slPoint false s.Points), (7, I (s.Points.length : Int)), (8, I t8)] [(1, .box [slPoint false s.Points])]) (((s.Points.length : Int) - 0).toNat) ⟨0, rfl, (by omega), (by intro j hj; omega), rfl⟩ (fun gn gσ hI => ?_)
  obtain ⟨t8, rfl, hi0, hall0, rfl⟩ := hI
  refine aw_seq ?_
  by_cases h1 : t8 < (s.Points.length : Int)
  · have hi : t8.toNat < s.Points.length := by omega
    refine aw_reg [(0, .dec true)] [1, 6, 7, 8, 9] [1] [.ref 1 0, slPoint false s.Points, I (s.Points.length : Int), I t8, Bv true] [some (.box [slPoint false s.Points])] [t8 < (s.Points.length : Int)] (by kernel_rfl) hB ⟨h1, trivial⟩ ?_
    refine ae_then ?_
    refine aw_seq ?_
    refine aw_true rfl ?_
    refine aw_skip ?_
    refine ae_then ?_
    refine aw_seq ?_
    refine aw_block ?_
    refine aw_seq ?_
    refine aw_reg [(3, .new 4)] [1, 3, 4, 6, 7, 8] [1, 4] [.ref 1 0, I t8, .ref 4 0, slPoint false s.Points, I (s.Points.length : Int), I t8] [some (.box [slPoint false s.Points]), some (.box [I ((at_ s.Points t8.toNat).X), I ((at_ s.Points t8.toNat).Y), I ((at_ s.Points t8.toNat).T)])] [(0 : Int) ≤ t8 ∧ t8 < (s.Points.length : Int)] (by kernel_rfl) hB ⟨⟨(by omega), (by omega)⟩, trivial⟩ ?_
    refine ae_then ?_
    refine aw_seq ?_
    rcases Bool.eq_false_or_eq_true (okP (at_ s.Points t8.toNat)) with h2 | h2
    · by_cases h3 : 0 < t8
      · by_cases h4 : ((at_ s.Points t8.toNat).T) ≤ ((at_ s.Points ((t8 - 1).toNat)).T)
        · have hall : allN s.Points.length (okPt s.Points) = false := allN_not hi (okPt_no h3 h4)
          refine aw_reg [(1, .call [(true, .agg [I ((at_ s.Points t8.toNat).X), I ((at_ s.Points t8.toNat).Y), I ((at_ s.Points t8.toNat).T)])] true (Bv true)), (5, .dec true), (16, .dec true)] [1, 6, 7, 8, 31] [1] [.ref 1 0, slPoint false s.Points, I (s.Points.length : Int), I t8, Bv true] [some (.box [slPoint false s.Points])] [Con Tryd.prog 59 [.agg [I ((at_ s.Points t8.toNat).X), I ((at_ s.Points t8.toNat).Y), I ((at_ s.Points t8.toNat).T)]] true (Bv true) ∧ ((.agg [I ((at_ s.Points t8.toNat).X), I ((at_ s.Points t8.toNat).Y), I ((at_ s.Points t8.toNat).T)] : AV) = .agg [I ((at_ s.Points t8.toNat).X), I ((at_ s.Points t8.toNat).Y), I ((at_ s.Points t8.toNat).T)]) ∧ True, 0 < t8, inR .i64 (t8 - 1), (0 : Int) ≤ (t8 - 1) ∧ (t8 - 1) < (s.Points.length : Int), ((at_ s.Points t8.toNat).T) ≤ ((at_ s.Points ((t8 - 1).toNat)).T)] (by kernel_rfl) hB ⟨⟨(con_bool h2 (validPoint_ok (at_ s.Points t8.toNat))), rfl, trivial⟩, h3, (inR_i64 (by omega) (by omega)), ⟨(by omega), (by omega)⟩, h4, trivial⟩ ?_
          refine ae_then ?_
          refine aw_true rfl ?_
          refine aw_seq ?_
          refine aw_reg [] [2] [] [Bv false] [] [] (by kernel_rfl) hB trivial ?_
          refine ae_then ?_
          refine aw_ret ?_
          refine ae_ret_block (ae_ret_then (ae_ret_then (ae_ret_block (ae_ret_then ?_))))
          refine ae_ret hB (Bv false) (by kernel_rfl) (.inl (by first | rfl | (refine congrArg Bv ?_; simp [okStroke', inB, *]; done) | (refine congrArg Bv ?_; simp [okStroke', inB, *]; omega) | (refine congrArg Bv ?_; simp_all [okStroke', inB]; done) | (refine congrArg Bv ?_; simp_all [okStroke', inB]; omega))) rfl (fun _ => trivial)
        · have hok := okPt_yes h2 h3 h4
          refine aw_reg [(1, .call [(true, .agg [I ((at_ s.Points t8.toNat).X), I ((at_ s.Points t8.toNat).Y), I ((at_ s.Points t8.toNat).T)])] true (Bv true)), (5, .dec true), (16, .dec false)] [1, 6, 7, 8, 31] [1] [.ref 1 0, slPoint false s.Points, I (s.Points.length : Int), I t8, Bv false] [some (.box [slPoint false s.Points])] [Con Tryd.prog 59 [.agg [I ((at_ s.Points t8.toNat).X), I ((at_ s.Points t8.toNat).Y), I ((at_ s.Points t8.toNat).T)]] true (Bv true) ∧ ((.agg [I ((at_ s.Points t8.toNat).X), I ((at_ s.Points t8.toNat).Y), I ((at_ s.Points t8.toNat).T)] : AV) = .agg [I ((at_ s.Points t8.toNat).X), I ((at_ s.Points t8.toNat).Y), I ((at_ s.Points t8.toNat).T)]) ∧ True, 0 < t8, inR .i64 (t8 - 1), (0 : Int) ≤ (t8 - 1) ∧ (t8 - 1) < (s.Points.length : Int), ¬ (((at_ s.Points t8.toNat).T) ≤ ((at_ s.Points ((t8 - 1).toNat)).T))] (by kernel_rfl) hB ⟨⟨(con_bool h2 (validPoint_ok (at_ s.Points t8.toNat))), rfl, trivial⟩, h3, (inR_i64 (by omega) (by omega)), ⟨(by omega), (by omega)⟩, h4, trivial⟩ ?_
          refine ae_then ?_
          refine aw_false rfl ?_
          refine aw_skip ?_
          refine ae_block 1 ?_
          refine ae_then ?_
          refine aw_reg [] [1, 6, 7, 8] [1] [.ref 1 0, slPoint false s.Points, I (s.Points.length : Int), I (t8 + 1)] [some (.box [slPoint false s.Points])] [inR .i64 (t8 + 1)] (by kernel_rfl) hB ⟨(inR_i64 (by omega) (by omega)), trivial⟩ ?_
          exact ae_again _ (by omega) ⟨(t8 + 1), rfl, (by omega), (by intro j hj; by_cases ej : j = t8.toNat; (subst ej; first | assumption | exact hok); exact hall0 j (by omega)), rfl⟩
      · have hok := okPt_zero h2 hi0.1 h3
        refine aw_reg [(1, .call [(true, .agg [I ((at_ s.Points t8.toNat).X), I ((at_ s.Points t8.toNat).Y), I ((at_ s.Points t8.toNat).T)])] true (Bv true)), (5, .dec false)] [1, 6, 7, 8, 31] [1] [.ref 1 0, slPoint false s.Points, I (s.Points.length : Int), I t8, Bv false] [some (.box [slPoint false s.Points])] [Con Tryd.prog 59 [.agg [I ((at_ s.Points t8.toNat).X), I ((at_ s.Points t8.toNat).Y), I ((at_ s.Points t8.toNat).T)]] true (Bv true) ∧ ((.agg [I ((at_ s.Points t8.toNat).X), I ((at_ s.Points t8.toNat).Y), I ((at_ s.Points t8.toNat).T)] : AV) = .agg [I ((at_ s.Points t8.toNat).X), I ((at_ s.Points t8.toNat).Y), I ((at_ s.Points t8.toNat).T)]) ∧ True, ¬ (0 < t8)] (by kernel_rfl) hB ⟨⟨(con_bool h2 (validPoint_ok (at_ s.Points t8.toNat))), rfl, trivial⟩, h3, trivial⟩ ?_
        refine ae_then ?_
        refine aw_false rfl ?_
        refine aw_skip ?_
        refine ae_block 1 ?_
        refine ae_then ?_
        refine aw_reg [] [1, 6, 7, 8] [1] [.ref 1 0, slPoint false s.Points, I (s.Points.length : Int), I (t8 + 1)] [some (.box [slPoint false s.Points])] [inR .i64 (t8 + 1)] (by kernel_rfl) hB ⟨(inR_i64 (by omega) (by omega)), trivial⟩ ?_
        exact ae_again _ (by omega) ⟨(t8 + 1), rfl, (by omega), (by intro j hj; by_cases ej : j = t8.toNat; (subst ej; first | assumption | exact hok); exact hall0 j (by omega)), rfl⟩
    · have hall : allN s.Points.length (okPt s.Points) = false := allN_not hi (okPt_bad h2)
      refine aw_reg [(1, .call [(true, .agg [I ((at_ s.Points t8.toNat).X), I ((at_ s.Points t8.toNat).Y), I ((at_ s.Points t8.toNat).T)])] true (Bv false))] [1, 6, 7, 8, 31] [1] [.ref 1 0, slPoint false s.Points, I (s.Points.length : Int), I t8, Bv true] [some (.box [slPoint false s.Points])] [Con Tryd.prog 59 [.agg [I ((at_ s.Points t8.toNat).X), I ((at_ s.Points t8.toNat).Y), I ((at_ s.Points t8.toNat).T)]] true (Bv false) ∧ ((.agg [I ((at_ s.Points t8.toNat).X), I ((at_ s.Points t8.toNat).Y), I ((at_ s.Points t8.toNat).T)] : AV) = .agg [I ((at_ s.Points t8.toNat).X), I ((at_ s.Points t8.toNat).Y), I ((at_ s.Points t8.toNat).T)]) ∧ True] (by kernel_rfl) hB ⟨⟨(con_bool h2 (validPoint_ok (at_ s.Points t8.toNat))), rfl, trivial⟩, trivial⟩ ?_
      refine ae_then ?_
      refine aw_true rfl ?_
      refine aw_seq ?_
      refine aw_reg [] [2] [] [Bv false] [] [] (by kernel_rfl) hB trivial ?_
      refine ae_then ?_
      refine aw_ret ?_
      refine ae_ret_block (ae_ret_then (ae_ret_then (ae_ret_block (ae_ret_then ?_))))
      refine ae_ret hB (Bv false) (by kernel_rfl) (.inl (by first | rfl | (refine congrArg Bv ?_; simp [okStroke', inB, *]; done) | (refine congrArg Bv ?_; simp [okStroke', inB, *]; omega) | (refine congrArg Bv ?_; simp_all [okStroke', inB]; done) | (refine congrArg Bv ?_; simp_all [okStroke', inB]; omega))) rfl (fun _ => trivial)
  · have hall : allN s.Points.length (okPt s.Points) = true := allN_at (fun j hj => hall0 j (by omega))
    refine aw_reg [(0, .dec false)] [1, 6, 7, 8, 9] [1] [.ref 1 0, slPoint false s.Points, I (s.Points.length : Int), I t8, Bv false] [some (.box [slPoint false s.Points])] [¬ (t8 < (s.Points.length : Int))] (by kernel_rfl) hB ⟨h1, trivial⟩ ?_
    refine ae_then ?_
    refine aw_seq ?_
    refine aw_false rfl ?_
    refine aw_exit ?_
    refine ae_exit_then ?_
    refine ae_exit_then ?_
    refine ae_exit_same ?_
    refine ae_then ?_
    refine aw_seq ?_
    by_cases h5 : 1 ≤ (s.Points.length : Int)
    · refine aw_reg [(3, .dec true)] [2] [] [Bv (decide ((s.Points.length : Int) ≤ 60))] [] [1 ≤ (s.Points.length : Int)] (by kernel_rfl) hB ⟨h5, trivial⟩ ?_
      refine ae_then ?_
      refine aw_ret ?_
      refine ae_ret hB (Bv (decide ((s.Points.length : Int) ≤ 60))) (by kernel_rfl) (.inl (by first | rfl | (refine congrArg Bv ?_; simp [okStroke', inB, *]; done) | (refine congrArg Bv ?_; simp [okStroke', inB, *]; omega) | (refine congrArg Bv ?_; simp_all [okStroke', inB]; done) | (refine congrArg Bv ?_; simp_all [okStroke', inB]; omega))) rfl (fun _ => trivial)
    · refine aw_reg [(3, .dec false)] [2] [] [Bv false] [] [¬ (1 ≤ (s.Points.length : Int))] (by kernel_rfl) hB ⟨h5, trivial⟩ ?_
      refine ae_then ?_
      refine aw_ret ?_
      refine ae_ret hB (Bv false) (by kernel_rfl) (.inl (by first | rfl | (refine congrArg Bv ?_; simp [okStroke', inB, *]; done) | (refine congrArg Bv ?_; simp [okStroke', inB, *]; omega) | (refine congrArg Bv ?_; simp_all [okStroke', inB]; done) | (refine congrArg Bv ?_; simp_all [okStroke', inB]; omega))) rfl (fun _ => trivial)


-- impl.squared
theorem squared_ok (a : Point) (b : Point) (ha : okP a = true) (hb : okP b = true) : Con Tryd.prog 91 [.agg [I a.X, I a.Y, I a.T], .agg [I b.X, I b.Y, I b.T]] true (I (farI a b)) := by
  have ha' := okP_iff.1 ha
  have hb' := okP_iff.1 hb
  have hfb := far_bd ha hb
  refine fn_ok (fn := Tryd.f91) (nt := 28) Tryd.func91 rfl rfl rfl rfl (by simp [taggedL, tagged]) fun B hB => ?_
  refine aw_seq ?_
  refine aw_reg [(0, .new 2), (1, .new 3)] [2, 3] [2, 3] [.ref 2 0, .ref 3 0] [some (.box [I a.X, I a.Y, I a.T]), some (.box [I b.X, I b.Y, I b.T])] [] (by kernel_rfl) hB trivial ?_
  refine ae_then ?_
  refine aw_seq ?_
  refine aw_reg [] [4] [] [I (((a.X - b.X) * (a.X - b.X)) + ((a.Y - b.Y) * (a.Y - b.Y)))] [] [inR .i64 (a.X - b.X), inR .i64 (a.X - b.X), inR .i64 ((a.X - b.X) * (a.X - b.X)), inR .i64 (a.Y - b.Y), inR .i64 (a.Y - b.Y), inR .i64 ((a.Y - b.Y) * (a.Y - b.Y)), inR .i64 (((a.X - b.X) * (a.X - b.X)) + ((a.Y - b.Y) * (a.Y - b.Y)))] (by kernel_rfl) hB ⟨(inR_i64 (by omega) (by omega)), (inR_i64 (by omega) (by omega)), (inR_i64 (by omega) (by omega)), (inR_i64 (by omega) (by omega)), (inR_i64 (by omega) (by omega)), (inR_i64 (by omega) (by omega)), (inR_i64 (by omega) (by omega)), trivial⟩ ?_
  refine ae_then ?_
  refine aw_ret ?_
  refine ae_ret hB (I (((a.X - b.X) * (a.X - b.X)) + ((a.Y - b.Y) * (a.Y - b.Y)))) (by kernel_rfl) (.inl (by first | rfl | (refine congrArg Bv ?_; simp [*]; done) | (refine congrArg Bv ?_; simp [*]; omega) | (refine congrArg Bv ?_; simp_all []; done) | (refine congrArg Bv ?_; simp_all []; omega))) rfl (fun _ => trivial)


-- bits.Len64
theorem len64_ok (x : Int) (h : 0 ≤ x ∧ x ≤ 18446744073709551615) : Con Tryd.prog 102 [.val (.int .u64 x)] true (I ((Lib.bitLen x.toNat : Nat) : Int)) := by
  refine con_of_calls (vals := [.int .u64 x]) fun w => ?_
  refine (Tryd.bits_Len64 x w h.1 h.2).mono ?_
  rintro e w' ⟨rfl, rfl⟩
  exact ⟨rfl, Below.refl _ _⟩


-- impl.rootOf
theorem rootOf_ok (n : Int) (hn : 0 ≤ n ∧ n ≤ 1000000000000000) : Con Tryd.prog 90 [I n] true (I (rootI n)) := by
  refine fn_ok (fn := Tryd.f90) (nt := 30) Tryd.func90 rfl rfl rfl rfl (by simp [taggedL, tagged]) fun B hB => ?_
  refine aw_seq ?_
  refine aw_reg [] [0] [] [I n] [] [] (by kernel_rfl) hB trivial ?_
  refine ae_then ?_
  refine aw_seq ?_
  refine aw_seq ?_
  by_cases h1 : n = 0
  · refine aw_reg [(1, .dec true)] [0, 6] [] [I n, Bv true] [] [n = 0] (by kernel_rfl) hB ⟨h1, trivial⟩ ?_
    refine ae_then ?_
    refine aw_true rfl ?_
    refine aw_seq ?_
    refine aw_reg [] [2] [] [I 0] [] [] (by kernel_rfl) hB trivial ?_
    refine ae_then ?_
    refine aw_ret ?_
    refine ae_ret_then ?_
    refine ae_ret hB (I 0) (by kernel_rfl) (.inl (by first | (exact congrArg I (Eq.symm (rootI_eq (by omega) hfin hr1))) | (refine congrArg I ?_; rw [h1]; rfl))) rfl (fun _ => trivial)
  · obtain ⟨hb1, hb2, hb3⟩ := root0 hn.1 hn.2
    have hq0 := div_bd (r := (1 * ((2 ^ ((((Lib.bitLen n.toNat : Nat) : Int) + 1) / 2).toNat : Nat) : Int))) hn.1 (by omega)
    refine aw_reg [(1, .dec false)] [0, 6] [] [I n, Bv false] [] [¬ (n = 0)] (by kernel_rfl) hB ⟨h1, trivial⟩ ?_
    refine ae_then ?_
    refine aw_false rfl ?_
    refine aw_skip ?_
    refine ae_then ?_
    refine aw_seq ?_
    refine aw_reg [(2, .call [(true, .val (.int .u64 n))] true (I ((Lib.bitLen n.toNat : Nat) : Int))), (4, .nn)] [0, 3] [] [I n, I (1 * ((2 ^ ((((Lib.bitLen n.toNat : Nat) : Int) + 1) / 2).toNat : Nat) : Int))] [] [inR .u64 n, Con Tryd.prog 102 [.val (.int .u64 n)] true (I ((Lib.bitLen n.toNat : Nat) : Int)) ∧ ((.val (.int .u64 n) : AV) = .val (.int .u64 n)) ∧ True, inR .i64 (((Lib.bitLen n.toNat : Nat) : Int) + 1), (0 : Int) ≤ (((Lib.bitLen n.toNat : Nat) : Int) + 1) ∧ (0 : Int) < 2 ∧ inR .i64 (((Lib.bitLen n.toNat : Nat) : Int) + 1), (0 : Int) ≤ ((((Lib.bitLen n.toNat : Nat) : Int) + 1) / 2) ∧ ((((Lib.bitLen n.toNat : Nat) : Int) + 1) / 2) ≤ ((IntKind.bits .i64 : Nat) : Int) ∧ inR .i64 (1 * ((2 ^ ((((Lib.bitLen n.toNat : Nat) : Int) + 1) / 2).toNat : Nat) : Int))] (by kernel_rfl) hB ⟨(inR_u64 (by omega) (by omega)), ⟨(len64_ok n (by omega)), rfl, trivial⟩, (inR_i64 (by omega) (by omega)), ⟨(by omega), (by omega), (inR_i64 (by omega) (by omega))⟩, ⟨(by omega), (show ((((Lib.bitLen n.toNat : Nat) : Int) + 1) / 2) ≤ (64 : Int) from by omega), (inR_i64 (by omega) (by omega))⟩, trivial⟩ ?_
    refine ae_then ?_
    refine aw_seq ?_
    refine aw_seq ?_
    refine aw_reg [(3, .nn), (5, .nn)] [0, 3, 4] [] [I n, I (1 * ((2 ^ ((((Lib.bitLen n.toNat : Nat) : Int) + 1) / 2).toNat : Nat) : Int)), I (((1 * ((2 ^ ((((Lib.bitLen n.toNat : Nat) : Int) + 1) / 2).toNat : Nat) : Int)) + (n / (1 * ((2 ^ ((((Lib.bitLen n.toNat : Nat) : Int) + 1) / 2).toNat : Nat) : Int)))) / 2)] [] [(0 : Int) ≤ n ∧ (0 : Int) < (1 * ((2 ^ ((((Lib.bitLen n.toNat : Nat) : Int) + 1) / 2).toNat : Nat) : Int)) ∧ inR .i64 n, inR .i64 ((1 * ((2 ^ ((((Lib.bitLen n.toNat : Nat) : Int) + 1) / 2).toNat : Nat) : Int)) + (n / (1 * ((2 ^ ((((Lib.bitLen n.toNat : Nat) : Int) + 1) / 2).toNat : Nat) : Int)))), (0 : Int) ≤ ((1 * ((2 ^ ((((Lib.bitLen n.toNat : Nat) : Int) + 1) / 2).toNat : Nat) : Int)) + (n / (1 * ((2 ^ ((((Lib.bitLen n.toNat : Nat) : Int) + 1) / 2).toNat : Nat) : Int)))) ∧ (0 : Int) < 2 ∧ inR .i64 ((1 * ((2 ^ ((((Lib.bitLen n.toNat : Nat) : Int) + 1) / 2).toNat : Nat) : Int)) + (n / (1 * ((2 ^ ((((Lib.bitLen n.toNat : Nat) : Int) + 1) / 2).toNat : Nat) : Int))))] (by kernel_rfl) hB ⟨⟨(by omega), (by omega), (inR_i64 (by omega) (by omega))⟩, (inR_i64 (by omega) (by omega)), ⟨(by omega), (by omega), (inR_i64 (by omega) (by omega))⟩, trivial⟩ ?_
    refine ae_then ?_
    refine aw_block ?_
    refine aw_loop (fun gn gσ => ∃ (r : Int) (next : Int), gn = r.toNat ∧ (0 < r ∧ r ≤ 33554432) ∧ (n < (r + 1) * (r + 1)) ∧ (next = (r + n / r) / 2) ∧ gσ = mkS [(0, I n), (3, I r), (4, I next)] []) ((1 * ((2 ^ ((((Lib.bitLen n.toNat : Nat) : Int) + 1) / 2).toNat : Nat) : Int)).toNat) ⟨(1 * ((2 ^ ((((Lib.bitLen n.toNat : Nat) : Int) + 1) / 2).toNat : Nat) : Int)), (((1 * ((2 ^ ((((Lib.bitLen n.toNat : Nat) : Int) + 1) / 2).toNat : Nat) : Int)) + (n / (1 * ((2 ^ ((((Lib.bitLen n.toNat : Nat) : Int) + 1) / 2).toNat : Nat) : Int)))) / 2), rfl, (by omega), (by exact hb3), (by rfl), rfl⟩ (fun gn gσ hI => ?_)
    obtain ⟨r, next, rfl, hr0, hr1, hr2, rfl⟩ := hI
    refine aw_seq ?_
    refine aw_seq ?_
    by_cases h2 : next < r
    · have hn1 := newton (n := n) hr0.1
      rw [← hr2] at hn1
      have hq1 := div_bd (r := r) hn.1 hr0.1
      have hnp := newton_pos (q := next) (by omega) (by omega) hn1
      have hq2 := div_bd (r := next) hn.1 hnp
      refine aw_reg [(2, .dec true)] [0, 3, 4, 21] [] [I n, I r, I next, Bv true] [] [next < r] (by kernel_rfl) hB ⟨h2, trivial⟩ ?_
      refine ae_then ?_
      refine aw_true rfl ?_
      refine aw_skip ?_
      refine ae_then ?_
      refine aw_seq ?_
      refine aw_block ?_
      refine aw_reg [] [0, 3] [] [I n, I next] [] [] (by kernel_rfl) hB trivial ?_
      refine ae_block 1 ?_
      refine ae_then ?_
      refine aw_reg [(3, .nn), (5, .nn)] [0, 3, 4] [] [I n, I next, I ((next + (n / next)) / 2)] [] [(0 : Int) ≤ n ∧ (0 : Int) < next ∧ inR .i64 n, inR .i64 (next + (n / next)), (0 : Int) ≤ (next + (n / next)) ∧ (0 : Int) < 2 ∧ inR .i64 (next + (n / next))] (by kernel_rfl) hB ⟨⟨(by omega), (by omega), (inR_i64 (by omega) (by omega))⟩, (inR_i64 (by omega) (by omega)), ⟨(by omega), (by omega), (inR_i64 (by omega) (by omega))⟩, trivial⟩ ?_
      exact ae_again _ (by omega) ⟨next, ((next + (n / next)) / 2), rfl, (by omega), (by exact hn1), (by rfl), rfl⟩
    · have hfin := newton_end hr0.1 (by rw [← hr2]; exact h2)
      refine aw_reg [(2, .dec false)] [0, 3, 4, 21] [] [I n, I r, I next, Bv false] [] [¬ (next < r)] (by kernel_rfl) hB ⟨h2, trivial⟩ ?_
      refine ae_then ?_
      refine aw_false rfl ?_
      refine aw_exit ?_
      refine ae_exit_then ?_
      refine ae_exit_then ?_
      refine ae_exit_same ?_
      refine ae_then ?_
      refine aw_seq ?_
      refine aw_reg [] [2] [] [I r] [] [] (by kernel_rfl) hB trivial ?_
      refine ae_then ?_
      refine aw_ret ?_
      refine ae_ret hB (I r) (by kernel_rfl) (.inl (by first | (exact congrArg I (Eq.symm (rootI_eq (by omega) hfin hr1))) | (refine congrArg I ?_; rw [h1]; rfl))) rfl (fun _ => trivial)


-- impl.lengthOf
theorem lengthOf_ok (a : Point) (b : Point) (ha : okP a = true) (hb : okP b = true) : Con Tryd.prog 67 [.agg [I a.X, I a.Y, I a.T], .agg [I b.X, I b.Y, I b.T]] true (I (segI a b)) := by
  have ha' := okP_iff.1 ha
  have hb' := okP_iff.1 hb
  have hfb := far_bd ha hb
  have hlb := segI_bd ha hb
  refine fn_ok (fn := Tryd.f67) (nt := 10) Tryd.func67 rfl rfl rfl rfl (by simp [taggedL, tagged]) fun B hB => ?_
  refine aw_seq ?_
  refine aw_reg [(0, .new 2), (1, .new 3)] [2, 3] [2, 3] [.ref 2 0, .ref 3 0] [some (.box [I a.X, I a.Y, I a.T]), some (.box [I b.X, I b.Y, I b.T])] [] (by kernel_rfl) hB trivial ?_
  refine ae_then ?_
  refine aw_seq ?_
  refine aw_reg [(2, .call [(true, .agg [I a.X, I a.Y, I a.T]), (true, .agg [I b.X, I b.Y, I b.T])] true (I (farI a b))), (4, .call [(true, I (256 * (farI a b)))] true (I (rootI (256 * (farI a b)))))] [4] [] [I (rootI (256 * (farI a b)))] [] [Con Tryd.prog 91 [.agg [I a.X, I a.Y, I a.T], .agg [I b.X, I b.Y, I b.T]] true (I (farI a b)) ∧ ((.agg [I a.X, I a.Y, I a.T] : AV) = .agg [I a.X, I a.Y, I a.T]) ∧ ((.agg [I b.X, I b.Y, I b.T] : AV) = .agg [I b.X, I b.Y, I b.T]) ∧ True, inR .i64 (256 * (farI a b)), Con Tryd.prog 90 [I (256 * (farI a b))] true (I (rootI (256 * (farI a b)))) ∧ ((I (256 * (farI a b)) : AV) = I (256 * (farI a b))) ∧ True] (by kernel_rfl) hB ⟨⟨(squared_ok a b ha hb), rfl, rfl, trivial⟩, (inR_i64 (by omega) (by omega)), ⟨(rootOf_ok (256 * (farI a b)) (by omega)), rfl, trivial⟩, trivial⟩ ?_
  refine ae_then ?_
  refine aw_ret ?_
  refine ae_ret hB (I (rootI (256 * (farI a b)))) (by kernel_rfl) (.inl (by first | rfl | (refine congrArg Bv ?_; simp [*]; done) | (refine congrArg Bv ?_; simp [*]; omega) | (refine congrArg Bv ?_; simp_all []; done) | (refine congrArg Bv ?_; simp_all []; omega))) rfl (fun _ => trivial)


-- impl.arcsOf
theorem arcsOf_ok (s : Stroke) (ok : okStroke' s = true) : Con Tryd.prog 88 [.agg [slPoint false s.Points]] true (slI true (arcsL s.Points s.Points.length)) := by
  have hln := okS_len ok
  refine fn_ok (fn := Tryd.f88) (nt := 35) Tryd.func88 rfl rfl rfl rfl (by simp [taggedL, tagged, tagPoint]) fun B hB => ?_
  refine aw_lens (x := .agg [slPoint false s.Points]) 0 rfl (fun len_s => ?_)
  simp [LenOK, LenL, cPoint, fPoint, slPoint] at len_s
  refine aw_seq ?_
  refine aw_reg [(0, .new 1)] [1] [1] [.ref 1 0] [some (.box [slPoint false s.Points])] [] (by kernel_rfl) hB trivial ?_
  refine ae_then ?_
  refine aw_seq ?_
  refine aw_reg [(0, .new 5)] [1, 3] [1, 5] [.ref 1 0, .arr 5] [some (.box [slPoint false s.Points]), some (.arr 1 1 (litF [I 0] 1))] [] (by kernel_rfl) hB trivial ?_
  refine ae_then ?_
  refine aw_seq ?_
  refine aw_seq ?_
  refine aw_reg [] [1, 3, 4] [1, 5] [.ref 1 0, .arr 5, I 1] [some (.box [slPoint false s.Points]), some (.arr 1 1 (litF [I 0] 1))] [] (by kernel_rfl) hB trivial ?_
  refine ae_then ?_
  refine aw_block ?_
  refine aw_weak hB [] (T := [(1, .ref 1 0), (3, .arr 5), (4, I 1)]) (O := [(1, .box [slPoint false s.Points]), (5, .arr 1 (([0]).length) (fI ([0])))]) rfl (⟨.inl rfl, .inl rfl, .inl rfl, trivial⟩) (⟨.inl rfl, .inr ⟨rfl, (by first | rfl | (simp; done) | (simp; omega) | omega), fun i hi => .inl (match i, hi with | 0, _ => rfl | (i + 1), h => absurd h (by simp))⟩, trivial⟩) ?_
  refine aw_loop (fun gn gσ => ∃ (arcs : List Int) (k : Int), gn = ((s.Points.length : Int) - k).toNat ∧ (1 ≤ k ∧ k ≤ (s.Points.length : Int)) ∧ (arcs = arcsL s.Points k.toNat) ∧ gσ = mkS [(1, .ref 1 0), (3, .arr 5), (4, I k)] [(1, .box [slPoint false s.Points]), (5, .arr 1 arcs.length (fI arcs))]) (((s.Points.length : Int) - 1).toNat) ⟨[0], 1, rfl, (by omega), (by rfl), rfl⟩ (fun gn gσ hI => ?_)
  obtain ⟨arcs, k, rfl, hi0, hs0, rfl⟩ := hI
  refine aw_seq ?_
  refine aw_seq ?_
  by_cases h1 : k < (s.Points.length : Int)
  · have hi : k.toNat < s.Points.length := by omega
    have hi2 : (k - 1).toNat < s.Points.length := by omega
    have hp1 := okS_at ok hi2
    have hp2 := okS_at ok hi
    have hlb := segI_bd hp1 hp2
    have hal : arcs.length = k.toNat := by rw [hs0, arcsL_len]
    have hav : at_ arcs (k - 1).toNat = sumS s.Points k.toNat := by rw [hs0, arcsL_at (by omega)]; congr 1; omega
    have hsb := sumS_bd ok k.toNat (by omega)
    refine aw_reg [(4, .dec true)] [1, 3, 4, 10] [1, 5] [.ref 1 0, .arr 5, I k, Bv true] [some (.box [slPoint false s.Points]), some (.arr 1 arcs.length (fI arcs))] [k < (s.Points.length : Int)] (by kernel_rfl) hB ⟨h1, trivial⟩ ?_
    refine ae_then ?_
    refine aw_true rfl ?_
    refine aw_skip ?_
    refine ae_then ?_
    refine aw_seq ?_
    refine aw_block ?_
    refine aw_reg [(17, .call [(true, .agg [I ((at_ s.Points ((k - 1).toNat)).X), I ((at_ s.Points ((k - 1).toNat)).Y), I ((at_ s.Points ((k - 1).toNat)).T)]), (true, .agg [I ((at_ s.Points k.toNat).X), I ((at_ s.Points k.toNat).Y), I ((at_ s.Points k.toNat).T)])] true (I (segI (at_ s.Points ((k - 1).toNat)) (at_ s.Points k.toNat)))), (19, .new 32), (20, .new 33)] [1, 3, 4] [1, 33] [.ref 1 0, .arr 33, I k] [some (.box [slPoint false s.Points]), some (.arr 1 (arcs.length + 1) (catF arcs.length (fI arcs) (litF [I ((at_ arcs ((k - 1).toNat)) + (segI (at_ s.Points ((k - 1).toNat)) (at_ s.Points k.toNat)))] 1)))] [inR .i64 (k - 1), (0 : Int) ≤ (k - 1) ∧ (k - 1) < (arcs.length : Int), (k - 1).toNat < arcs.length, inR .i64 (k - 1), (0 : Int) ≤ (k - 1) ∧ (k - 1) < (s.Points.length : Int), (0 : Int) ≤ k ∧ k < (s.Points.length : Int), Con Tryd.prog 67 [.agg [I ((at_ s.Points ((k - 1).toNat)).X), I ((at_ s.Points ((k - 1).toNat)).Y), I ((at_ s.Points ((k - 1).toNat)).T)], .agg [I ((at_ s.Points k.toNat).X), I ((at_ s.Points k.toNat).Y), I ((at_ s.Points k.toNat).T)]] true (I (segI (at_ s.Points ((k - 1).toNat)) (at_ s.Points k.toNat))) ∧ ((.agg [I ((at_ s.Points ((k - 1).toNat)).X), I ((at_ s.Points ((k - 1).toNat)).Y), I ((at_ s.Points ((k - 1).toNat)).T)] : AV) = .agg [I ((at_ s.Points ((k - 1).toNat)).X), I ((at_ s.Points ((k - 1).toNat)).Y), I ((at_ s.Points ((k - 1).toNat)).T)]) ∧ ((.agg [I ((at_ s.Points k.toNat).X), I ((at_ s.Points k.toNat).Y), I ((at_ s.Points k.toNat).T)] : AV) = .agg [I ((at_ s.Points k.toNat).X), I ((at_ s.Points k.toNat).Y), I ((at_ s.Points k.toNat).T)]) ∧ True, inR .i64 ((at_ arcs ((k - 1).toNat)) + (segI (at_ s.Points ((k - 1).toNat)) (at_ s.Points k.toNat))), (arcs.length + 1) * 8 ≤ 140737488355328] (by kernel_rfl) hB ⟨(inR_i64 (by omega) (by omega)), ⟨(by omega), (by omega)⟩, (by omega), (inR_i64 (by omega) (by omega)), ⟨(by omega), (by omega)⟩, ⟨(by omega), (by omega)⟩, ⟨(lengthOf_ok (at_ s.Points ((k - 1).toNat)) (at_ s.Points k.toNat) hp1 hp2), rfl, rfl, trivial⟩, (inR_i64 (by omega) (by omega)), (by omega), trivial⟩ ?_
    refine ae_block 1 ?_
    refine ae_then ?_
    refine aw_reg [] [1, 3, 4] [1, 33] [.ref 1 0, .arr 33, I (k + 1)] [some (.box [slPoint false s.Points]), some (.arr 1 (arcs.length + 1) (catF arcs.length (fI arcs) (litF [I ((at_ arcs ((k - 1).toNat)) + (segI (at_ s.Points ((k - 1).toNat)) (at_ s.Points k.toNat)))] 1)))] [inR .i64 (k + 1)] (by kernel_rfl) hB ⟨(inR_i64 (by omega) (by omega)), trivial⟩ ?_
    refine ae_weak hB [(5, 33)] (T := [(1, .ref 1 0), (3, .arr 5), (4, I (k + 1))]) (O := [(1, .box [slPoint false s.Points]), (5, .arr 1 ((arcs ++ [((at_ arcs ((k - 1).toNat)) + (segI (at_ s.Points ((k - 1).toNat)) (at_ s.Points k.toNat)))]).length) (fI (arcs ++ [((at_ arcs ((k - 1).toNat)) + (segI (at_ s.Points ((k - 1).toNat)) (at_ s.Points k.toNat)))])))]) rfl (⟨.inl rfl, .inl rfl, .inl rfl, trivial⟩) (⟨.inl rfl, .inr ⟨rfl, (by first | rfl | (simp; done) | (simp; omega) | omega), fun i hi => .inl (cat_snoc (enc := cI) (xs := arcs) rfl i hi)⟩, trivial⟩) (ae_again _ (by omega) ⟨(arcs ++ [((at_ arcs ((k - 1).toNat)) + (segI (at_ s.Points ((k - 1).toNat)) (at_ s.Points k.toNat)))]), (k + 1), rfl, (by omega), (by have e : (k + 1).toNat = k.toNat + 1 := (by omega); rw [e, arcsL_succ, ← e, sumS_succ hi0.1, ← hs0, hav]), rfl⟩)
  · have hie : k.toNat = s.Points.length := by omega
    rw [hie] at hs0
    subst hs0
    refine aw_reg [(4, .dec false)] [1, 3, 4, 10] [1, 5] [.ref 1 0, .arr 5, I k, Bv false] [some (.box [slPoint false s.Points]), some (.arr 1 ((arcsL s.Points s.Points.length).length) (fI (arcsL s.Points s.Points.length)))] [¬ (k < (s.Points.length : Int))] (by kernel_rfl) hB ⟨h1, trivial⟩ ?_
    refine ae_then ?_
    refine aw_false rfl ?_
    refine aw_exit ?_
    refine ae_exit_then ?_
    refine ae_exit_then ?_
    refine ae_exit_same ?_
    refine ae_then ?_
    refine aw_seq ?_
    refine aw_reg [] [2] [5] [.arr 5] [some (.arr 1 ((arcsL s.Points s.Points.length).length) (fI (arcsL s.Points s.Points.length)))] [] (by kernel_rfl) hB trivial ?_
    refine ae_then ?_
    refine aw_ret ?_
    refine ae_ret hB (.arr 5) (by kernel_rfl) (.inr ⟨(fun _ => rfl), rfl, rfl, fun i _ => .inl rfl⟩) rfl (fun _ => (tagI true _))


-- impl.strokeLength
theorem strokeLength_ok (s : Stroke) (ok : okStroke' s = true) : Con Tryd.prog 60 [.agg [slPoint false s.Points]] true (I (sumS s.Points s.Points.length)) := by
  have hln := okS_len ok
  have hal := arcsL_len s.Points s.Points.length
  refine fn_ok (fn := Tryd.f60) (nt := 12) Tryd.func60 rfl rfl rfl rfl (by simp [taggedL, tagged, tagPoint]) fun B hB => ?_
  refine aw_lens (x := .agg [slPoint false s.Points]) 0 rfl (fun len_s => ?_)
  simp [LenOK, LenL, cPoint, fPoint, slPoint] at len_s
  refine aw_seq ?_
  refine aw_reg [(0, .new 1)] [1] [1] [.ref 1 0] [some (.box [slPoint false s.Points])] [] (by kernel_rfl) hB trivial ?_
  refine ae_then ?_
  refine aw_seq ?_
  refine aw_reg [(1, .call [(true, .agg [slPoint false s.Points])] true (slI true (arcsL s.Points s.Points.length)))] [3] [] [slI true (arcsL s.Points s.Points.length)] [] [Con Tryd.prog 88 [.agg [slPoint false s.Points]] true (slI true (arcsL s.Points s.Points.length)) ∧ ((.agg [slPoint false s.Points] : AV) = .agg [slPoint false s.Points]) ∧ True] (by kernel_rfl) hB ⟨⟨(arcsOf_ok s ok), rfl, trivial⟩, trivial⟩ ?_
  refine ae_then ?_
  refine aw_seq ?_
  refine aw_reg [] [2] [] [I (at_ (arcsL s.Points s.Points.length) (((((arcsL s.Points s.Points.length).length) : Int) - 1).toNat))] [] [inR .i64 ((((arcsL s.Points s.Points.length).length) : Int) - 1), (0 : Int) ≤ ((((arcsL s.Points s.Points.length).length) : Int) - 1) ∧ ((((arcsL s.Points s.Points.length).length) : Int) - 1) < (((arcsL s.Points s.Points.length).length) : Int)] (by kernel_rfl) hB ⟨(inR_i64 (by omega) (by omega)), ⟨(by omega), (by omega)⟩, trivial⟩ ?_
  refine ae_then ?_
  refine aw_ret ?_
  refine ae_ret hB (I (at_ (arcsL s.Points s.Points.length) (((((arcsL s.Points s.Points.length).length) : Int) - 1).toNat))) (by kernel_rfl) (.inl (by rw [arcsL_at (by omega)]; congr 2; omega)) rfl (fun _ => trivial)


-- impl.reversalsOf
theorem reversalsOf_ok (s : Stroke) (ok : okStroke' s = true) : Con Tryd.prog 61 [.agg [slPoint false s.Points]] true (I ((revS s.Points s.Points.length).1)) := by
  have hln := okS_len ok
  refine fn_ok (fn := Tryd.f61) (nt := 48) Tryd.func61 rfl rfl rfl rfl (by simp [taggedL, tagged, tagPoint]) fun B hB => ?_
  refine aw_lens (x := .agg [slPoint false s.Points]) 0 rfl (fun len_s => ?_)
  simp [LenOK, LenL, cPoint, fPoint, slPoint] at len_s
  refine aw_seq ?_
  refine aw_reg [(0, .new 1)] [1] [1] [.ref 1 0] [some (.box [slPoint false s.Points])] [] (by kernel_rfl) hB trivial ?_
  refine ae_then ?_
  refine aw_seq ?_
  refine aw_reg [] [1, 3, 4] [1] [.ref 1 0, I 0, I 0] [some (.box [slPoint false s.Points])] [] (by kernel_rfl) hB trivial ?_
  refine ae_then ?_
  refine aw_seq ?_
  refine aw_seq ?_
  refine aw_reg [] [1, 3, 4, 5] [1] [.ref 1 0, I 0, I 0, I 1] [some (.box [slPoint false s.Points])] [] (by kernel_rfl) hB trivial ?_
  refine ae_then ?_
  refine aw_block ?_
  refine aw_loop (fun gn gσ => ∃ (count : Int) (last : Int) (k : Int), gn = ((s.Points.length : Int) - k).toNat ∧ (1 ≤ k ∧ k ≤ (s.Points.length : Int)) ∧ (count = (revS s.Points k.toNat).1) ∧ (last = (revS s.Points k.toNat).2) ∧ (0 ≤ count ∧ count ≤ k) ∧ gσ = mkS [(1, .ref 1 0), (3, I count), (4, I last), (5, I k)] [(1, .box [slPoint false s.Points])]) (((s.Points.length : Int) - 1).toNat) ⟨0, 0, 1, rfl, (by omega), (by rfl), (by rfl), (by omega), rfl⟩ (fun gn gσ hI => ?_)
  obtain ⟨count, last, k, rfl, hi0, hr1, hr2, hr3, rfl⟩ := hI
  refine aw_seq ?_
  refine aw_seq ?_
  by_cases h1 : k < (s.Points.length : Int)
  · have hi : k.toNat < s.Points.length := by omega
    have hi2 : (k - 1).toNat < s.Points.length := by omega
    have hp1 := okP_iff.1 (okS_at ok hi2)
    have hp2 := okP_iff.1 (okS_at ok hi)
    refine aw_reg [(4, .dec true)] [1, 3, 4, 5, 11] [1] [.ref 1 0, I count, I last, I k, Bv true] [some (.box [slPoint false s.Points])] [k < (s.Points.length : Int)] (by kernel_rfl) hB ⟨h1, trivial⟩ ?_
    refine ae_then ?_
    refine aw_true rfl ?_
    refine aw_skip ?_
    refine ae_then ?_
    refine aw_seq ?_
    refine aw_block ?_
    refine aw_seq ?_
    refine aw_reg [] [1, 3, 4, 5, 6] [1] [.ref 1 0, I count, I last, I k, I (((at_ s.Points k.toNat).X) - ((at_ s.Points ((k - 1).toNat)).X))] [some (.box [slPoint false s.Points])] [(0 : Int) ≤ k ∧ k < (s.Points.length : Int), inR .i64 (k - 1), (0 : Int) ≤ (k - 1) ∧ (k - 1) < (s.Points.length : Int), inR .i64 (((at_ s.Points k.toNat).X) - ((at_ s.Points ((k - 1).toNat)).X))] (by kernel_rfl) hB ⟨⟨(by omega), (by omega)⟩, (inR_i64 (by omega) (by omega)), ⟨(by omega), (by omega)⟩, (inR_i64 (by omega) (by omega)), trivial⟩ ?_
    refine ae_then ?_
    refine aw_seq ?_
    refine aw_seq ?_
    by_cases h2 : (((at_ s.Points k.toNat).X) - ((at_ s.Points ((k - 1).toNat)).X)) = 0
    · refine aw_reg [(1, .dec true)] [1, 3, 4, 5, 6, 29] [1] [.ref 1 0, I count, I last, I k, I (((at_ s.Points k.toNat).X) - ((at_ s.Points ((k - 1).toNat)).X)), Bv true] [some (.box [slPoint false s.Points])] [(((at_ s.Points k.toNat).X) - ((at_ s.Points ((k - 1).toNat)).X)) = 0] (by kernel_rfl) hB ⟨h2, trivial⟩ ?_
      refine ae_then ?_
      refine aw_true rfl ?_
      refine aw_exit ?_
      refine ae_exit_then ?_
      refine ae_exit_same ?_
      refine ae_then ?_
      refine aw_reg [] [1, 3, 4, 5] [1] [.ref 1 0, I count, I last, I (k + 1)] [some (.box [slPoint false s.Points])] [inR .i64 (k + 1)] (by kernel_rfl) hB ⟨(inR_i64 (by omega) (by omega)), trivial⟩ ?_
      exact ae_again _ (by omega) ⟨count, last, (k + 1), rfl, (by omega), (by rw [revS_1 hi0.1, ← hr1, ← hr2]; omega), (by rw [revS_2 hi0.1, ← hr2]; omega), (by omega), rfl⟩
    · refine aw_reg [(1, .dec false)] [1, 3, 4, 5, 6, 29] [1] [.ref 1 0, I count, I last, I k, I (((at_ s.Points k.toNat).X) - ((at_ s.Points ((k - 1).toNat)).X)), Bv false] [some (.box [slPoint false s.Points])] [¬ ((((at_ s.Points k.toNat).X) - ((at_ s.Points ((k - 1).toNat)).X)) = 0)] (by kernel_rfl) hB ⟨h2, trivial⟩ ?_
      refine ae_then ?_
      refine aw_false rfl ?_
      refine aw_skip ?_
      refine ae_then ?_
      refine aw_seq ?_
      refine aw_seq ?_
      by_cases h3 : (((at_ s.Points k.toNat).X) - ((at_ s.Points ((k - 1).toNat)).X)) < 0
      · by_cases h4 : 0 < last
        · refine aw_reg [(1, .dec true), (4, .dec true)] [1, 3, 5, 6, 43] [1] [.ref 1 0, I count, I k, I (((at_ s.Points k.toNat).X) - ((at_ s.Points ((k - 1).toNat)).X)), Bv true] [some (.box [slPoint false s.Points])] [(((at_ s.Points k.toNat).X) - ((at_ s.Points ((k - 1).toNat)).X)) < 0, 0 < last] (by kernel_rfl) hB ⟨h3, h4, trivial⟩ ?_
          refine ae_then ?_
          refine aw_true rfl ?_
          refine aw_reg [] [1, 3, 5, 6] [1] [.ref 1 0, I (count + 1), I k, I (((at_ s.Points k.toNat).X) - ((at_ s.Points ((k - 1).toNat)).X))] [some (.box [slPoint false s.Points])] [inR .i64 (count + 1)] (by kernel_rfl) hB ⟨(inR_i64 (by omega) (by omega)), trivial⟩ ?_
          refine ae_then ?_
          refine aw_reg [] [1, 3, 4, 5] [1] [.ref 1 0, I (count + 1), I (((at_ s.Points k.toNat).X) - ((at_ s.Points ((k - 1).toNat)).X)), I k] [some (.box [slPoint false s.Points])] [] (by kernel_rfl) hB trivial ?_
          refine ae_block 1 ?_
          refine ae_then ?_
          refine aw_reg [] [1, 3, 4, 5] [1] [.ref 1 0, I (count + 1), I (((at_ s.Points k.toNat).X) - ((at_ s.Points ((k - 1).toNat)).X)), I (k + 1)] [some (.box [slPoint false s.Points])] [inR .i64 (k + 1)] (by kernel_rfl) hB ⟨(inR_i64 (by omega) (by omega)), trivial⟩ ?_
          exact ae_again _ (by omega) ⟨(count + 1), (((at_ s.Points k.toNat).X) - ((at_ s.Points ((k - 1).toNat)).X)), (k + 1), rfl, (by omega), (by rw [revS_1 hi0.1, ← hr1, ← hr2]; omega), (by rw [revS_2 hi0.1, ← hr2]; omega), (by omega), rfl⟩
        · by_cases h5 : 0 < (((at_ s.Points k.toNat).X) - ((at_ s.Points ((k - 1).toNat)).X))
          · by_cases h6 : last < 0
            · refine aw_reg [(1, .dec true), (4, .dec false), (8, .dec true), (11, .dec true)] [1, 3, 5, 6, 43] [1] [.ref 1 0, I count, I k, I (((at_ s.Points k.toNat).X) - ((at_ s.Points ((k - 1).toNat)).X)), Bv true] [some (.box [slPoint false s.Points])] [(((at_ s.Points k.toNat).X) - ((at_ s.Points ((k - 1).toNat)).X)) < 0, ¬ (0 < last), 0 < (((at_ s.Points k.toNat).X) - ((at_ s.Points ((k - 1).toNat)).X)), last < 0] (by kernel_rfl) hB ⟨h3, h4, h5, h6, trivial⟩ ?_
              refine ae_then ?_
              refine aw_true rfl ?_
              refine aw_reg [] [1, 3, 5, 6] [1] [.ref 1 0, I (count + 1), I k, I (((at_ s.Points k.toNat).X) - ((at_ s.Points ((k - 1).toNat)).X))] [some (.box [slPoint false s.Points])] [inR .i64 (count + 1)] (by kernel_rfl) hB ⟨(inR_i64 (by omega) (by omega)), trivial⟩ ?_
              refine ae_then ?_
              refine aw_reg [] [1, 3, 4, 5] [1] [.ref 1 0, I (count + 1), I (((at_ s.Points k.toNat).X) - ((at_ s.Points ((k - 1).toNat)).X)), I k] [some (.box [slPoint false s.Points])] [] (by kernel_rfl) hB trivial ?_
              refine ae_block 1 ?_
              refine ae_then ?_
              refine aw_reg [] [1, 3, 4, 5] [1] [.ref 1 0, I (count + 1), I (((at_ s.Points k.toNat).X) - ((at_ s.Points ((k - 1).toNat)).X)), I (k + 1)] [some (.box [slPoint false s.Points])] [inR .i64 (k + 1)] (by kernel_rfl) hB ⟨(inR_i64 (by omega) (by omega)), trivial⟩ ?_
              exact ae_again _ (by omega) ⟨(count + 1), (((at_ s.Points k.toNat).X) - ((at_ s.Points ((k - 1).toNat)).X)), (k + 1), rfl, (by omega), (by rw [revS_1 hi0.1, ← hr1, ← hr2]; omega), (by rw [revS_2 hi0.1, ← hr2]; omega), (by omega), rfl⟩
            · refine aw_reg [(1, .dec true), (4, .dec false), (8, .dec true), (11, .dec false)] [1, 3, 5, 6, 43] [1] [.ref 1 0, I count, I k, I (((at_ s.Points k.toNat).X) - ((at_ s.Points ((k - 1).toNat)).X)), Bv false] [some (.box [slPoint false s.Points])] [(((at_ s.Points k.toNat).X) - ((at_ s.Points ((k - 1).toNat)).X)) < 0, ¬ (0 < last), 0 < (((at_ s.Points k.toNat).X) - ((at_ s.Points ((k - 1).toNat)).X)), ¬ (last < 0)] (by kernel_rfl) hB ⟨h3, h4, h5, h6, trivial⟩ ?_
              refine ae_then ?_
              refine aw_false rfl ?_
              refine aw_skip ?_
              refine ae_then ?_
              refine aw_reg [] [1, 3, 4, 5] [1] [.ref 1 0, I count, I (((at_ s.Points k.toNat).X) - ((at_ s.Points ((k - 1).toNat)).X)), I k] [some (.box [slPoint false s.Points])] [] (by kernel_rfl) hB trivial ?_
              refine ae_block 1 ?_
              refine ae_then ?_
              refine aw_reg [] [1, 3, 4, 5] [1] [.ref 1 0, I count, I (((at_ s.Points k.toNat).X) - ((at_ s.Points ((k - 1).toNat)).X)), I (k + 1)] [some (.box [slPoint false s.Points])] [inR .i64 (k + 1)] (by kernel_rfl) hB ⟨(inR_i64 (by omega) (by omega)), trivial⟩ ?_
              exact ae_again _ (by omega) ⟨count, (((at_ s.Points k.toNat).X) - ((at_ s.Points ((k - 1).toNat)).X)), (k + 1), rfl, (by omega), (by rw [revS_1 hi0.1, ← hr1, ← hr2]; omega), (by rw [revS_2 hi0.1, ← hr2]; omega), (by omega), rfl⟩
          · refine aw_reg [(1, .dec true), (4, .dec false), (8, .dec false)] [1, 3, 5, 6, 43] [1] [.ref 1 0, I count, I k, I (((at_ s.Points k.toNat).X) - ((at_ s.Points ((k - 1).toNat)).X)), Bv false] [some (.box [slPoint false s.Points])] [(((at_ s.Points k.toNat).X) - ((at_ s.Points ((k - 1).toNat)).X)) < 0, ¬ (0 < last), ¬ (0 < (((at_ s.Points k.toNat).X) - ((at_ s.Points ((k - 1).toNat)).X)))] (by kernel_rfl) hB ⟨h3, h4, h5, trivial⟩ ?_
            refine ae_then ?_
            refine aw_false rfl ?_
            refine aw_skip ?_
            refine ae_then ?_
            refine aw_reg [] [1, 3, 4, 5] [1] [.ref 1 0, I count, I (((at_ s.Points k.toNat).X) - ((at_ s.Points ((k - 1).toNat)).X)), I k] [some (.box [slPoint false s.Points])] [] (by kernel_rfl) hB trivial ?_
            refine ae_block 1 ?_
            refine ae_then ?_
            refine aw_reg [] [1, 3, 4, 5] [1] [.ref 1 0, I count, I (((at_ s.Points k.toNat).X) - ((at_ s.Points ((k - 1).toNat)).X)), I (k + 1)] [some (.box [slPoint false s.Points])] [inR .i64 (k + 1)] (by kernel_rfl) hB ⟨(inR_i64 (by omega) (by omega)), trivial⟩ ?_
            exact ae_again _ (by omega) ⟨count, (((at_ s.Points k.toNat).X) - ((at_ s.Points ((k - 1).toNat)).X)), (k + 1), rfl, (by omega), (by rw [revS_1 hi0.1, ← hr1, ← hr2]; omega), (by rw [revS_2 hi0.1, ← hr2]; omega), (by omega), rfl⟩
      · by_cases h7 : 0 < (((at_ s.Points k.toNat).X) - ((at_ s.Points ((k - 1).toNat)).X))
        · by_cases h8 : last < 0
          · refine aw_reg [(1, .dec false), (8, .dec true), (11, .dec true)] [1, 3, 5, 6, 43] [1] [.ref 1 0, I count, I k, I (((at_ s.Points k.toNat).X) - ((at_ s.Points ((k - 1).toNat)).X)), Bv true] [some (.box [slPoint false s.Points])] [¬ ((((at_ s.Points k.toNat).X) - ((at_ s.Points ((k - 1).toNat)).X)) < 0), 0 < (((at_ s.Points k.toNat).X) - ((at_ s.Points ((k - 1).toNat)).X)), last < 0] (by kernel_rfl) hB ⟨h3, h7, h8, trivial⟩ ?_
            refine ae_then ?_
            refine aw_true rfl ?_
            refine aw_reg [] [1, 3, 5, 6] [1] [.ref 1 0, I (count + 1), I k, I (((at_ s.Points k.toNat).X) - ((at_ s.Points ((k - 1).toNat)).X))] [some (.box [slPoint false s.Points])] [inR .i64 (count + 1)] (by kernel_rfl) hB ⟨(inR_i64 (by omega) (by omega)), trivial⟩ ?_
            refine ae_then ?_
            refine aw_reg [] [1, 3, 4, 5] [1] [.ref 1 0, I (count + 1), I (((at_ s.Points k.toNat).X) - ((at_ s.Points ((k - 1).toNat)).X)), I k] [some (.box [slPoint false s.Points])] [] (by kernel_rfl) hB trivial ?_
            refine ae_block 1 ?_
            refine ae_then ?_
            refine aw_reg [] [1, 3, 4, 5] [1] [.ref 1 0, I (count + 1), I (((at_ s.Points k.toNat).X) - ((at_ s.Points ((k - 1).toNat)).X)), I (k + 1)] [some (.box [slPoint false s.Points])] [inR .i64 (k + 1)] (by kernel_rfl) hB ⟨(inR_i64 (by omega) (by omega)), trivial⟩ ?_
            exact ae_again _ (by omega) ⟨(count + 1), (((at_ s.Points k.toNat).X) - ((at_ s.Points ((k - 1).toNat)).X)), (k + 1), rfl, (by omega), (by rw [revS_1 hi0.1, ← hr1, ← hr2]; omega), (by rw [revS_2 hi0.1, ← hr2]; omega), (by omega), rfl⟩
          · refine aw_reg [(1, .dec false), (8, .dec true), (11, .dec false)] [1, 3, 5, 6, 43] [1] [.ref 1 0, I count, I k, I (((at_ s.Points k.toNat).X) - ((at_ s.Points ((k - 1).toNat)).X)), Bv false] [some (.box [slPoint false s.Points])] [¬ ((((at_ s.Points k.toNat).X) - ((at_ s.Points ((k - 1).toNat)).X)) < 0), 0 < (((at_ s.Points k.toNat).X) - ((at_ s.Points ((k - 1).toNat)).X)), ¬ (last < 0)] (by kernel_rfl) hB ⟨h3, h7, h8, trivial⟩ ?_
            refine ae_then ?_
            refine aw_false rfl ?_
            refine aw_skip ?_
            refine ae_then ?_
            refine aw_reg [] [1, 3, 4, 5] [1] [.ref 1 0, I count, I (((at_ s.Points k.toNat).X) - ((at_ s.Points ((k - 1).toNat)).X)), I k] [some (.box [slPoint false s.Points])] [] (by kernel_rfl) hB trivial ?_
            refine ae_block 1 ?_
            refine ae_then ?_
            refine aw_reg [] [1, 3, 4, 5] [1] [.ref 1 0, I count, I (((at_ s.Points k.toNat).X) - ((at_ s.Points ((k - 1).toNat)).X)), I (k + 1)] [some (.box [slPoint false s.Points])] [inR .i64 (k + 1)] (by kernel_rfl) hB ⟨(inR_i64 (by omega) (by omega)), trivial⟩ ?_
            exact ae_again _ (by omega) ⟨count, (((at_ s.Points k.toNat).X) - ((at_ s.Points ((k - 1).toNat)).X)), (k + 1), rfl, (by omega), (by rw [revS_1 hi0.1, ← hr1, ← hr2]; omega), (by rw [revS_2 hi0.1, ← hr2]; omega), (by omega), rfl⟩
        · refine aw_reg [(1, .dec false), (8, .dec false)] [1, 3, 5, 6, 43] [1] [.ref 1 0, I count, I k, I (((at_ s.Points k.toNat).X) - ((at_ s.Points ((k - 1).toNat)).X)), Bv false] [some (.box [slPoint false s.Points])] [¬ ((((at_ s.Points k.toNat).X) - ((at_ s.Points ((k - 1).toNat)).X)) < 0), ¬ (0 < (((at_ s.Points k.toNat).X) - ((at_ s.Points ((k - 1).toNat)).X)))] (by kernel_rfl) hB ⟨h3, h7, trivial⟩ ?_
          refine ae_then ?_
          refine aw_false rfl ?_
          refine aw_skip ?_
          refine ae_then ?_
          refine aw_reg [] [1, 3, 4, 5] [1] [.ref 1 0, I count, I (((at_ s.Points k.toNat).X) - ((at_ s.Points ((k - 1).toNat)).X)), I k] [some (.box [slPoint false s.Points])] [] (by kernel_rfl) hB trivial ?_
          refine ae_block 1 ?_
          refine ae_then ?_
          refine aw_reg [] [1, 3, 4, 5] [1] [.ref 1 0, I count, I (((at_ s.Points k.toNat).X) - ((at_ s.Points ((k - 1).toNat)).X)), I (k + 1)] [some (.box [slPoint false s.Points])] [inR .i64 (k + 1)] (by kernel_rfl) hB ⟨(inR_i64 (by omega) (by omega)), trivial⟩ ?_
          exact ae_again _ (by omega) ⟨count, (((at_ s.Points k.toNat).X) - ((at_ s.Points ((k - 1).toNat)).X)), (k + 1), rfl, (by omega), (by rw [revS_1 hi0.1, ← hr1, ← hr2]; omega), (by rw [revS_2 hi0.1, ← hr2]; omega), (by omega), rfl⟩
  · have hie : k.toNat = s.Points.length := by omega
    rw [hie] at hr1
    refine aw_reg [(4, .dec false)] [1, 3, 4, 5, 11] [1] [.ref 1 0, I count, I last, I k, Bv false] [some (.box [slPoint false s.Points])] [¬ (k < (s.Points.length : Int))] (by kernel_rfl) hB ⟨h1, trivial⟩ ?_
    refine ae_then ?_
    refine aw_false rfl ?_
    refine aw_exit ?_
    refine ae_exit_then ?_
    refine ae_exit_then ?_
    refine ae_exit_same ?_
    refine ae_then ?_
    refine aw_seq ?_
    refine aw_reg [] [2] [] [I count] [] [] (by kernel_rfl) hB trivial ?_
    refine ae_then ?_
    refine aw_ret ?_
    refine ae_ret hB (I count) (by kernel_rfl) (.inl (by rw [hr1])) rfl (fun _ => trivial)


-- impl.abs
theorem abs_ok (n : Int) (hn : -9223372036854775807 ≤ n ∧ n ≤ 9223372036854775807) : Con Tryd.prog 66 [I n] true (I (n.natAbs : Int)) := by
  refine fn_ok (fn := Tryd.f66) (nt := 8) Tryd.func66 rfl rfl rfl rfl (by simp [taggedL, tagged]) fun B hB => ?_
  refine aw_seq ?_
  refine aw_reg [] [0] [] [I n] [] [] (by kernel_rfl) hB trivial ?_
  refine ae_then ?_
  refine aw_seq ?_
  refine aw_seq ?_
  by_cases h1 : n < 0
  · refine aw_reg [(1, .dec true)] [0, 4] [] [I n, Bv true] [] [n < 0] (by kernel_rfl) hB ⟨h1, trivial⟩ ?_
    refine ae_then ?_
    refine aw_true rfl ?_
    refine aw_seq ?_
    refine aw_reg [] [2] [] [I (-n)] [] [inR .i64 (-n)] (by kernel_rfl) hB ⟨(inR_i64 (by omega) (by omega)), trivial⟩ ?_
    refine ae_then ?_
    refine aw_ret ?_
    refine ae_ret_then ?_
    refine ae_ret hB (I (-n)) (by kernel_rfl) (.inl (by refine congrArg I ?_; omega)) rfl (fun _ => trivial)
  · refine aw_reg [(1, .dec false)] [0, 4] [] [I n, Bv false] [] [¬ (n < 0)] (by kernel_rfl) hB ⟨h1, trivial⟩ ?_
    refine ae_then ?_
    refine aw_false rfl ?_
    refine aw_skip ?_
    refine ae_then ?_
    refine aw_seq ?_
    refine aw_reg [] [2] [] [I n] [] [] (by kernel_rfl) hB trivial ?_
    refine ae_then ?_
    refine aw_ret ?_
    refine ae_ret hB (I n) (by kernel_rfl) (.inl (by refine congrArg I ?_; omega)) rfl (fun _ => trivial)


-- impl.directionOf
theorem directionOf_ok (dx : Int) (dy : Int) (hd : (-4095 ≤ dx ∧ dx ≤ 4095) ∧ -4095 ≤ dy ∧ dy ≤ 4095) : Con Tryd.prog 101 [I dx, I dy] true (I (dirI dx dy)) := by
  have hx2 := two_sq (x := (dx.natAbs : Int)) (by omega) (by omega)
  have hy2 := two_sq (x := (dy.natAbs : Int)) (by omega) (by omega)
  have hs2 := sq_bd (x := (dx.natAbs : Int) + (dy.natAbs : Int)) (B := 8190) (by omega) (by omega)
  have hz := @dir_zero dx dy
  refine fn_ok (fn := Tryd.f101) (nt := 68) Tryd.func101 rfl rfl rfl rfl (by simp [taggedL, tagged]) fun B hB => ?_
  refine aw_seq ?_
  refine aw_reg [] [0, 1] [] [I dx, I dy] [] [] (by kernel_rfl) hB trivial ?_
  refine ae_then ?_
  refine aw_seq ?_
  refine aw_reg [(1, .call [(true, I dx)] true (I (dx.natAbs : Int))), (3, .call [(true, I dy)] true (I (dy.natAbs : Int)))] [0, 1, 5, 6] [] [I dx, I dy, I (dx.natAbs : Int), I (dy.natAbs : Int)] [] [Con Tryd.prog 66 [I dx] true (I (dx.natAbs : Int)) ∧ ((I dx : AV) = I dx) ∧ True, Con Tryd.prog 66 [I dy] true (I (dy.natAbs : Int)) ∧ ((I dy : AV) = I dy) ∧ True] (by kernel_rfl) hB ⟨⟨(abs_ok dx (by omega)), rfl, trivial⟩, ⟨(abs_ok dy (by omega)), rfl, trivial⟩, trivial⟩ ?_
  refine ae_then ?_
  refine aw_seq ?_
  refine aw_reg [] [0, 1, 5, 6, 7] [] [I dx, I dy, I (dx.natAbs : Int), I (dy.natAbs : Int), I (((dx.natAbs : Int) + (dy.natAbs : Int)) * ((dx.natAbs : Int) + (dy.natAbs : Int)))] [] [inR .i64 ((dx.natAbs : Int) + (dy.natAbs : Int)), inR .i64 ((dx.natAbs : Int) + (dy.natAbs : Int)), inR .i64 (((dx.natAbs : Int) + (dy.natAbs : Int)) * ((dx.natAbs : Int) + (dy.natAbs : Int)))] (by kernel_rfl) hB ⟨(inR_i64 (by omega) (by omega)), (inR_i64 (by omega) (by omega)), (inR_i64 (by omega) (by omega)), trivial⟩ ?_
  refine ae_then ?_
  refine aw_seq ?_
  refine aw_block ?_
  refine aw_seq ?_
  by_cases h1 : (((dx.natAbs : Int) + (dy.natAbs : Int)) * ((dx.natAbs : Int) + (dy.natAbs : Int))) ≤ ((2 * (dx.natAbs : Int)) * (dx.natAbs : Int))
  · by_cases h2 : 0 < dx
    · refine aw_reg [(5, .dec true), (8, .dec true)] [0, 1, 5, 6, 7, 19] [] [I dx, I dy, I (dx.natAbs : Int), I (dy.natAbs : Int), I (((dx.natAbs : Int) + (dy.natAbs : Int)) * ((dx.natAbs : Int) + (dy.natAbs : Int))), Bv true] [] [inR .i64 (2 * (dx.natAbs : Int)), inR .i64 ((2 * (dx.natAbs : Int)) * (dx.natAbs : Int)), (((dx.natAbs : Int) + (dy.natAbs : Int)) * ((dx.natAbs : Int) + (dy.natAbs : Int))) ≤ ((2 * (dx.natAbs : Int)) * (dx.natAbs : Int)), 0 < dx] (by kernel_rfl) hB ⟨(inR_i64 (by omega) (by omega)), (inR_i64 (by omega) (by omega)), h1, h2, trivial⟩ ?_
      refine ae_then ?_
      refine aw_true rfl ?_
      refine aw_seq ?_
      refine aw_reg [] [4] [] [I 0] [] [] (by kernel_rfl) hB trivial ?_
      refine ae_then ?_
      refine aw_ret ?_
      refine ae_ret_block (ae_ret_then ?_)
      refine ae_ret hB (I 0) (by kernel_rfl) (.inl (by refine congrArg I ?_; unfold dirI; (repeat' split) <;> first | rfl | omega)) rfl (fun _ => trivial)
    · refine aw_reg [(5, .dec true), (8, .dec false)] [0, 1, 5, 6, 7, 19] [] [I dx, I dy, I (dx.natAbs : Int), I (dy.natAbs : Int), I (((dx.natAbs : Int) + (dy.natAbs : Int)) * ((dx.natAbs : Int) + (dy.natAbs : Int))), Bv false] [] [inR .i64 (2 * (dx.natAbs : Int)), inR .i64 ((2 * (dx.natAbs : Int)) * (dx.natAbs : Int)), (((dx.natAbs : Int) + (dy.natAbs : Int)) * ((dx.natAbs : Int) + (dy.natAbs : Int))) ≤ ((2 * (dx.natAbs : Int)) * (dx.natAbs : Int)), ¬ (0 < dx)] (by kernel_rfl) hB ⟨(inR_i64 (by omega) (by omega)), (inR_i64 (by omega) (by omega)), h1, h2, trivial⟩ ?_
      refine ae_then ?_
      refine aw_false rfl ?_
      refine aw_seq ?_
      refine aw_reg [(5, .dec true)] [0, 1, 6, 7, 30] [] [I dx, I dy, I (dy.natAbs : Int), I (((dx.natAbs : Int) + (dy.natAbs : Int)) * ((dx.natAbs : Int) + (dy.natAbs : Int))), Bv true] [] [inR .i64 (2 * (dx.natAbs : Int)), inR .i64 ((2 * (dx.natAbs : Int)) * (dx.natAbs : Int)), (((dx.natAbs : Int) + (dy.natAbs : Int)) * ((dx.natAbs : Int) + (dy.natAbs : Int))) ≤ ((2 * (dx.natAbs : Int)) * (dx.natAbs : Int))] (by kernel_rfl) hB ⟨(inR_i64 (by omega) (by omega)), (inR_i64 (by omega) (by omega)), h1, trivial⟩ ?_
      refine ae_then ?_
      refine aw_true rfl ?_
      refine aw_seq ?_
      refine aw_reg [] [4] [] [I 4] [] [] (by kernel_rfl) hB trivial ?_
      refine ae_then ?_
      refine aw_ret ?_
      refine ae_ret_block (ae_ret_then ?_)
      refine ae_ret hB (I 4) (by kernel_rfl) (.inl (by refine congrArg I ?_; unfold dirI; (repeat' split) <;> first | rfl | omega)) rfl (fun _ => trivial)
  · refine aw_reg [(5, .dec false)] [0, 1, 5, 6, 7, 19] [] [I dx, I dy, I (dx.natAbs : Int), I (dy.natAbs : Int), I (((dx.natAbs : Int) + (dy.natAbs : Int)) * ((dx.natAbs : Int) + (dy.natAbs : Int))), Bv false] [] [inR .i64 (2 * (dx.natAbs : Int)), inR .i64 ((2 * (dx.natAbs : Int)) * (dx.natAbs : Int)), ¬ ((((dx.natAbs : Int) + (dy.natAbs : Int)) * ((dx.natAbs : Int) + (dy.natAbs : Int))) ≤ ((2 * (dx.natAbs : Int)) * (dx.natAbs : Int)))] (by kernel_rfl) hB ⟨(inR_i64 (by omega) (by omega)), (inR_i64 (by omega) (by omega)), h1, trivial⟩ ?_
    refine ae_then ?_
    refine aw_false rfl ?_
    refine aw_seq ?_
    refine aw_reg [(5, .dec false)] [0, 1, 6, 7, 30] [] [I dx, I dy, I (dy.natAbs : Int), I (((dx.natAbs : Int) + (dy.natAbs : Int)) * ((dx.natAbs : Int) + (dy.natAbs : Int))), Bv false] [] [inR .i64 (2 * (dx.natAbs : Int)), inR .i64 ((2 * (dx.natAbs : Int)) * (dx.natAbs : Int)), ¬ ((((dx.natAbs : Int) + (dy.natAbs : Int)) * ((dx.natAbs : Int) + (dy.natAbs : Int))) ≤ ((2 * (dx.natAbs : Int)) * (dx.natAbs : Int)))] (by kernel_rfl) hB ⟨(inR_i64 (by omega) (by omega)), (inR_i64 (by omega) (by omega)), h1, trivial⟩ ?_
    refine ae_then ?_
    refine aw_false rfl ?_
    refine aw_seq ?_
    by_cases h3 : (((dx.natAbs : Int) + (dy.natAbs : Int)) * ((dx.natAbs : Int) + (dy.natAbs : Int))) ≤ ((2 * (dy.natAbs : Int)) * (dy.natAbs : Int))
    · by_cases h4 : 0 < dy
      · refine aw_reg [(5, .dec true), (8, .dec true)] [0, 1, 6, 7, 37] [] [I dx, I dy, I (dy.natAbs : Int), I (((dx.natAbs : Int) + (dy.natAbs : Int)) * ((dx.natAbs : Int) + (dy.natAbs : Int))), Bv true] [] [inR .i64 (2 * (dy.natAbs : Int)), inR .i64 ((2 * (dy.natAbs : Int)) * (dy.natAbs : Int)), (((dx.natAbs : Int) + (dy.natAbs : Int)) * ((dx.natAbs : Int) + (dy.natAbs : Int))) ≤ ((2 * (dy.natAbs : Int)) * (dy.natAbs : Int)), 0 < dy] (by kernel_rfl) hB ⟨(inR_i64 (by omega) (by omega)), (inR_i64 (by omega) (by omega)), h3, h4, trivial⟩ ?_
        refine ae_then ?_
        refine aw_true rfl ?_
        refine aw_seq ?_
        refine aw_reg [] [4] [] [I 2] [] [] (by kernel_rfl) hB trivial ?_
        refine ae_then ?_
        refine aw_ret ?_
        refine ae_ret_block (ae_ret_then ?_)
        refine ae_ret hB (I 2) (by kernel_rfl) (.inl (by refine congrArg I ?_; unfold dirI; (repeat' split) <;> first | rfl | omega)) rfl (fun _ => trivial)
      · refine aw_reg [(5, .dec true), (8, .dec false)] [0, 1, 6, 7, 37] [] [I dx, I dy, I (dy.natAbs : Int), I (((dx.natAbs : Int) + (dy.natAbs : Int)) * ((dx.natAbs : Int) + (dy.natAbs : Int))), Bv false] [] [inR .i64 (2 * (dy.natAbs : Int)), inR .i64 ((2 * (dy.natAbs : Int)) * (dy.natAbs : Int)), (((dx.natAbs : Int) + (dy.natAbs : Int)) * ((dx.natAbs : Int) + (dy.natAbs : Int))) ≤ ((2 * (dy.natAbs : Int)) * (dy.natAbs : Int)), ¬ (0 < dy)] (by kernel_rfl) hB ⟨(inR_i64 (by omega) (by omega)), (inR_i64 (by omega) (by omega)), h3, h4, trivial⟩ ?_
        refine ae_then ?_
        refine aw_false rfl ?_
        refine aw_seq ?_
        refine aw_reg [(5, .dec true)] [0, 1, 48] [] [I dx, I dy, Bv true] [] [inR .i64 (2 * (dy.natAbs : Int)), inR .i64 ((2 * (dy.natAbs : Int)) * (dy.natAbs : Int)), (((dx.natAbs : Int) + (dy.natAbs : Int)) * ((dx.natAbs : Int) + (dy.natAbs : Int))) ≤ ((2 * (dy.natAbs : Int)) * (dy.natAbs : Int))] (by kernel_rfl) hB ⟨(inR_i64 (by omega) (by omega)), (inR_i64 (by omega) (by omega)), h3, trivial⟩ ?_
        refine ae_then ?_
        refine aw_true rfl ?_
        refine aw_seq ?_
        refine aw_reg [] [4] [] [I 6] [] [] (by kernel_rfl) hB trivial ?_
        refine ae_then ?_
        refine aw_ret ?_
        refine ae_ret_block (ae_ret_then ?_)
        refine ae_ret hB (I 6) (by kernel_rfl) (.inl (by refine congrArg I ?_; unfold dirI; (repeat' split) <;> first | rfl | omega)) rfl (fun _ => trivial)
    · refine aw_reg [(5, .dec false)] [0, 1, 6, 7, 37] [] [I dx, I dy, I (dy.natAbs : Int), I (((dx.natAbs : Int) + (dy.natAbs : Int)) * ((dx.natAbs : Int) + (dy.natAbs : Int))), Bv false] [] [inR .i64 (2 * (dy.natAbs : Int)), inR .i64 ((2 * (dy.natAbs : Int)) * (dy.natAbs : Int)), ¬ ((((dx.natAbs : Int) + (dy.natAbs : Int)) * ((dx.natAbs : Int) + (dy.natAbs : Int))) ≤ ((2 * (dy.natAbs : Int)) * (dy.natAbs : Int)))] (by kernel_rfl) hB ⟨(inR_i64 (by omega) (by omega)), (inR_i64 (by omega) (by omega)), h3, trivial⟩ ?_
      refine ae_then ?_
      refine aw_false rfl ?_
      refine aw_seq ?_
      refine aw_reg [(5, .dec false)] [0, 1, 48] [] [I dx, I dy, Bv false] [] [inR .i64 (2 * (dy.natAbs : Int)), inR .i64 ((2 * (dy.natAbs : Int)) * (dy.natAbs : Int)), ¬ ((((dx.natAbs : Int) + (dy.natAbs : Int)) * ((dx.natAbs : Int) + (dy.natAbs : Int))) ≤ ((2 * (dy.natAbs : Int)) * (dy.natAbs : Int)))] (by kernel_rfl) hB ⟨(inR_i64 (by omega) (by omega)), (inR_i64 (by omega) (by omega)), h3, trivial⟩ ?_
      refine ae_then ?_
      refine aw_false rfl ?_
      refine aw_seq ?_
      by_cases h5 : 0 < dx
      · by_cases h6 : 0 < dy
        · refine aw_reg [(1, .dec true), (4, .dec true)] [0, 1, 55] [] [I dx, I dy, Bv true] [] [0 < dx, 0 < dy] (by kernel_rfl) hB ⟨h5, h6, trivial⟩ ?_
          refine ae_then ?_
          refine aw_true rfl ?_
          refine aw_seq ?_
          refine aw_reg [] [4] [] [I 1] [] [] (by kernel_rfl) hB trivial ?_
          refine ae_then ?_
          refine aw_ret ?_
          refine ae_ret_block (ae_ret_then ?_)
          refine ae_ret hB (I 1) (by kernel_rfl) (.inl (by refine congrArg I ?_; unfold dirI; (repeat' split) <;> first | rfl | omega)) rfl (fun _ => trivial)
        · refine aw_reg [(1, .dec true), (4, .dec false)] [0, 1, 55] [] [I dx, I dy, Bv false] [] [0 < dx, ¬ (0 < dy)] (by kernel_rfl) hB ⟨h5, h6, trivial⟩ ?_
          refine ae_then ?_
          refine aw_false rfl ?_
          refine aw_seq ?_
          refine aw_reg [(1, .dec false)] [0, 62] [] [I dx, Bv false] [] [¬ (0 < dy)] (by kernel_rfl) hB ⟨h6, trivial⟩ ?_
          refine ae_then ?_
          refine aw_false rfl ?_
          refine aw_seq ?_
          by_cases h7 : dx < 0
          · refine aw_reg [(1, .dec true)] [65] [] [Bv true] [] [dx < 0] (by kernel_rfl) hB ⟨h7, trivial⟩ ?_
            refine ae_then ?_
            refine aw_true rfl ?_
            refine aw_seq ?_
            refine aw_reg [] [4] [] [I 5] [] [] (by kernel_rfl) hB trivial ?_
            refine ae_then ?_
            refine aw_ret ?_
            refine ae_ret_block (ae_ret_then ?_)
            refine ae_ret hB (I 5) (by kernel_rfl) (.inl (by refine congrArg I ?_; unfold dirI; (repeat' split) <;> first | rfl | omega)) rfl (fun _ => trivial)
          · refine aw_reg [(1, .dec false)] [65] [] [Bv false] [] [¬ (dx < 0)] (by kernel_rfl) hB ⟨h7, trivial⟩ ?_
            refine ae_then ?_
            refine aw_false rfl ?_
            refine aw_skip ?_
            refine ae_block 0 ?_
            refine ae_then ?_
            refine aw_seq ?_
            refine aw_reg [] [4] [] [I 7] [] [] (by kernel_rfl) hB trivial ?_
            refine ae_then ?_
            refine aw_ret ?_
            refine ae_ret hB (I 7) (by kernel_rfl) (.inl (by refine congrArg I ?_; unfold dirI; (repeat' split) <;> first | rfl | omega)) rfl (fun _ => trivial)
      · refine aw_reg [(1, .dec false)] [0, 1, 55] [] [I dx, I dy, Bv false] [] [¬ (0 < dx)] (by kernel_rfl) hB ⟨h5, trivial⟩ ?_
        refine ae_then ?_
        refine aw_false rfl ?_
        refine aw_seq ?_
        by_cases h8 : 0 < dy
        · refine aw_reg [(1, .dec true)] [0, 62] [] [I dx, Bv true] [] [0 < dy] (by kernel_rfl) hB ⟨h8, trivial⟩ ?_
          refine ae_then ?_
          refine aw_true rfl ?_
          refine aw_seq ?_
          refine aw_reg [] [4] [] [I 3] [] [] (by kernel_rfl) hB trivial ?_
          refine ae_then ?_
          refine aw_ret ?_
          refine ae_ret_block (ae_ret_then ?_)
          refine ae_ret hB (I 3) (by kernel_rfl) (.inl (by refine congrArg I ?_; unfold dirI; (repeat' split) <;> first | rfl | omega)) rfl (fun _ => trivial)
        · refine aw_reg [(1, .dec false)] [0, 62] [] [I dx, Bv false] [] [¬ (0 < dy)] (by kernel_rfl) hB ⟨h8, trivial⟩ ?_
          refine ae_then ?_
          refine aw_false rfl ?_
          refine aw_seq ?_
          by_cases h9 : dx < 0
          · refine aw_reg [(1, .dec true)] [65] [] [Bv true] [] [dx < 0] (by kernel_rfl) hB ⟨h9, trivial⟩ ?_
            refine ae_then ?_
            refine aw_true rfl ?_
            refine aw_seq ?_
            refine aw_reg [] [4] [] [I 5] [] [] (by kernel_rfl) hB trivial ?_
            refine ae_then ?_
            refine aw_ret ?_
            refine ae_ret_block (ae_ret_then ?_)
            refine ae_ret hB (I 5) (by kernel_rfl) (.inl (by refine congrArg I ?_; unfold dirI; (repeat' split) <;> first | rfl | omega)) rfl (fun _ => trivial)
          · refine aw_reg [(1, .dec false)] [65] [] [Bv false] [] [¬ (dx < 0)] (by kernel_rfl) hB ⟨h9, trivial⟩ ?_
            refine ae_then ?_
            refine aw_false rfl ?_
            refine aw_skip ?_
            refine ae_block 0 ?_
            refine ae_then ?_
            refine aw_seq ?_
            refine aw_reg [] [4] [] [I 7] [] [] (by kernel_rfl) hB trivial ?_
            refine ae_then ?_
            refine aw_ret ?_
            refine ae_ret hB (I 7) (by kernel_rfl) (.inl (by refine congrArg I ?_; unfold dirI; (repeat' split) <;> first | rfl | omega)) rfl (fun _ => trivial)


-- impl.directionsOf
theorem directionsOf_ok (s : Stroke) (ok : okStroke' s = true) : Con Tryd.prog 89 [.agg [slPoint false s.Points]] true (slI true (dirsL s.Points s.Points.length)) := by
  have hln := okS_len ok
  refine fn_ok (fn := Tryd.f89) (nt := 52) Tryd.func89 rfl rfl rfl rfl (by simp [taggedL, tagged, tagPoint]) fun B hB => ?_
  refine aw_lens (x := .agg [slPoint false s.Points]) 0 rfl (fun len_s => ?_)
  simp [LenOK, LenL, cPoint, fPoint, slPoint] at len_s
  refine aw_seq ?_
  refine aw_reg [(0, .new 1)] [1] [1] [.ref 1 0] [some (.box [slPoint false s.Points])] [] (by kernel_rfl) hB trivial ?_
  refine ae_then ?_
  refine aw_seq ?_
  refine aw_reg [] [1, 3] [1] [.ref 1 0, nilA] [some (.box [slPoint false s.Points])] [] (by kernel_rfl) hB trivial ?_
  refine ae_then ?_
  refine aw_seq ?_
  refine aw_seq ?_
  refine aw_reg [] [1, 3, 4] [1] [.ref 1 0, nilA, I 1] [some (.box [slPoint false s.Points])] [] (by kernel_rfl) hB trivial ?_
  refine ae_then ?_
  refine aw_block ?_
  refine aw_nil hB 3 703 1 (fun _ => []) (by kernel_rfl) ?_
  refine aw_weak hB [] (T := [(1, .ref 1 0), (3, .arr 703), (4, I 1)]) (O := [(1, .box [slPoint false s.Points]), (703, .arr 1 (([] : List Int).length) (fI ([] : List Int)))]) rfl (⟨.inl rfl, .inl rfl, .inl rfl, trivial⟩) (⟨.inl rfl, .inr ⟨rfl, (by first | rfl | (simp; done) | (simp; omega) | omega), fun i hi => absurd hi (Nat.not_lt_zero _)⟩, trivial⟩) ?_
  refine aw_loop (fun gn gσ => ∃ (list : List Int) (k : Int), gn = ((s.Points.length : Int) - k).toNat ∧ (1 ≤ k ∧ (k ≤ (s.Points.length : Int) ∨ k = 1)) ∧ (list = dirsL s.Points k.toNat) ∧ gσ = mkS [(1, .ref 1 0), (3, .arr 703), (4, I k)] [(1, .box [slPoint false s.Points]), (703, .arr 1 list.length (fI list))]) (((s.Points.length : Int) - 1).toNat) ⟨([] : List Int), 1, rfl, (by omega), (by exact (dirsL_one _).symm), rfl⟩ (fun gn gσ hI => ?_)
  obtain ⟨list, k, rfl, hi0, hd0, rfl⟩ := hI
  refine aw_seq ?_
  refine aw_seq ?_
  by_cases h1 : k < (s.Points.length : Int)
  · have hi : k.toNat < s.Points.length := by omega
    have hi2 : (k - 1).toNat < s.Points.length := by omega
    have hp1 := okP_iff.1 (okS_at ok hi2)
    have hp2 := okP_iff.1 (okS_at ok hi)
    have hbd := dirI_bd ((at_ s.Points k.toNat).X - (at_ s.Points (k - 1).toNat).X) ((at_ s.Points k.toNat).Y - (at_ s.Points (k - 1).toNat).Y)
    have hdl : list.length ≤ k.toNat := by rw [hd0]; exact dirsL_len _ _
    refine aw_reg [(4, .dec true)] [1, 3, 4, 11] [1, 703] [.ref 1 0, .arr 703, I k, Bv true] [some (.box [slPoint false s.Points]), some (.arr 1 list.length (fI list))] [k < (s.Points.length : Int)] (by kernel_rfl) hB ⟨h1, trivial⟩ ?_
    refine ae_then ?_
    refine aw_true rfl ?_
    refine aw_skip ?_
    refine ae_then ?_
    refine aw_seq ?_
    refine aw_block ?_
    refine aw_seq ?_
    refine aw_reg [(11, .new 5), (12, .new 6)] [1, 3, 4, 5, 6] [1, 5, 6, 703] [.ref 1 0, .arr 703, I k, .ref 5 0, .ref 6 0] [some (.box [slPoint false s.Points]), some (.box [I ((at_ s.Points ((k - 1).toNat)).X), I ((at_ s.Points ((k - 1).toNat)).Y), I ((at_ s.Points ((k - 1).toNat)).T)]), some (.box [I ((at_ s.Points k.toNat).X), I ((at_ s.Points k.toNat).Y), I ((at_ s.Points k.toNat).T)]), some (.arr 1 list.length (fI list))] [inR .i64 (k - 1), (0 : Int) ≤ (k - 1) ∧ (k - 1) < (s.Points.length : Int), (0 : Int) ≤ k ∧ k < (s.Points.length : Int)] (by kernel_rfl) hB ⟨(inR_i64 (by omega) (by omega)), ⟨(by omega), (by omega)⟩, ⟨(by omega), (by omega)⟩, trivial⟩ ?_
    refine ae_then ?_
    refine aw_seq ?_
    by_cases h2 : ((at_ s.Points ((k - 1).toNat)).X) = ((at_ s.Points k.toNat).X)
    · by_cases h3 : ((at_ s.Points ((k - 1).toNat)).Y) = ((at_ s.Points k.toNat).Y)
      · refine aw_reg [(4, .dec false), (10, .dec false)] [1, 3, 4, 5, 6, 36] [1, 5, 6, 703] [.ref 1 0, .arr 703, I k, .ref 5 0, .ref 6 0, Bv false] [some (.box [slPoint false s.Points]), some (.box [I ((at_ s.Points ((k - 1).toNat)).X), I ((at_ s.Points ((k - 1).toNat)).Y), I ((at_ s.Points ((k - 1).toNat)).T)]), some (.box [I ((at_ s.Points k.toNat).X), I ((at_ s.Points k.toNat).Y), I ((at_ s.Points k.toNat).T)]), some (.arr 1 list.length (fI list))] [¬ (((at_ s.Points ((k - 1).toNat)).X) ≠ ((at_ s.Points k.toNat).X)), ¬ (((at_ s.Points ((k - 1).toNat)).Y) ≠ ((at_ s.Points k.toNat).Y))] (by kernel_rfl) hB ⟨(fun hq => hq h2), (fun hq => hq h3), trivial⟩ ?_
        refine ae_then ?_
        refine aw_false rfl ?_
        refine aw_skip ?_
        refine ae_block 1 ?_
        refine ae_then ?_
        refine aw_reg [] [1, 3, 4] [1, 703] [.ref 1 0, .arr 703, I (k + 1)] [some (.box [slPoint false s.Points]), some (.arr 1 list.length (fI list))] [inR .i64 (k + 1)] (by kernel_rfl) hB ⟨(inR_i64 (by omega) (by omega)), trivial⟩ ?_
        exact ae_again _ (by omega) ⟨list, (k + 1), rfl, (by omega), (by rw [hd0]; first | (exact (dirsL_same hi0.1 (by omega) (by omega)).symm) | (exact (dirsL_more hi0.1 (by omega)).symm)), rfl⟩
      · refine aw_reg [(4, .dec false), (10, .dec true)] [1, 3, 4, 5, 6, 36] [1, 5, 6, 703] [.ref 1 0, .arr 703, I k, .ref 5 0, .ref 6 0, Bv true] [some (.box [slPoint false s.Points]), some (.box [I ((at_ s.Points ((k - 1).toNat)).X), I ((at_ s.Points ((k - 1).toNat)).Y), I ((at_ s.Points ((k - 1).toNat)).T)]), some (.box [I ((at_ s.Points k.toNat).X), I ((at_ s.Points k.toNat).Y), I ((at_ s.Points k.toNat).T)]), some (.arr 1 list.length (fI list))] [¬ (((at_ s.Points ((k - 1).toNat)).X) ≠ ((at_ s.Points k.toNat).X)), ((at_ s.Points ((k - 1).toNat)).Y) ≠ ((at_ s.Points k.toNat).Y)] (by kernel_rfl) hB ⟨(fun hq => hq h2), h3, trivial⟩ ?_
        refine ae_then ?_
        refine aw_true rfl ?_
        refine aw_reg [(11, .call [(true, I (((at_ s.Points k.toNat).X) - ((at_ s.Points ((k - 1).toNat)).X))), (true, I (((at_ s.Points k.toNat).Y) - ((at_ s.Points ((k - 1).toNat)).Y)))] true (I (dirI (((at_ s.Points k.toNat).X) - ((at_ s.Points ((k - 1).toNat)).X)) (((at_ s.Points k.toNat).Y) - ((at_ s.Points ((k - 1).toNat)).Y))))), (12, .new 49), (13, .new 50)] [1, 3, 4] [1, 50] [.ref 1 0, .arr 50, I k] [some (.box [slPoint false s.Points]), some (.arr 1 (list.length + 1) (catF list.length (fI list) (litF [I (dirI (((at_ s.Points k.toNat).X) - ((at_ s.Points ((k - 1).toNat)).X)) (((at_ s.Points k.toNat).Y) - ((at_ s.Points ((k - 1).toNat)).Y)))] 1)))] [inR .i64 (((at_ s.Points k.toNat).X) - ((at_ s.Points ((k - 1).toNat)).X)), inR .i64 (((at_ s.Points k.toNat).Y) - ((at_ s.Points ((k - 1).toNat)).Y)), Con Tryd.prog 101 [I (((at_ s.Points k.toNat).X) - ((at_ s.Points ((k - 1).toNat)).X)), I (((at_ s.Points k.toNat).Y) - ((at_ s.Points ((k - 1).toNat)).Y))] true (I (dirI (((at_ s.Points k.toNat).X) - ((at_ s.Points ((k - 1).toNat)).X)) (((at_ s.Points k.toNat).Y) - ((at_ s.Points ((k - 1).toNat)).Y)))) ∧ ((I (((at_ s.Points k.toNat).X) - ((at_ s.Points ((k - 1).toNat)).X)) : AV) = I (((at_ s.Points k.toNat).X) - ((at_ s.Points ((k - 1).toNat)).X))) ∧ ((I (((at_ s.Points k.toNat).Y) - ((at_ s.Points ((k - 1).toNat)).Y)) : AV) = I (((at_ s.Points k.toNat).Y) - ((at_ s.Points ((k - 1).toNat)).Y))) ∧ True, (list.length + 1) * 8 ≤ 140737488355328] (by kernel_rfl) hB ⟨(inR_i64 (by omega) (by omega)), (inR_i64 (by omega) (by omega)), ⟨(directionOf_ok (((at_ s.Points k.toNat).X) - ((at_ s.Points ((k - 1).toNat)).X)) (((at_ s.Points k.toNat).Y) - ((at_ s.Points ((k - 1).toNat)).Y)) (by omega)), rfl, rfl, trivial⟩, (by omega), trivial⟩ ?_
        refine ae_block 1 ?_
        refine ae_then ?_
        refine aw_reg [] [1, 3, 4] [1, 50] [.ref 1 0, .arr 50, I (k + 1)] [some (.box [slPoint false s.Points]), some (.arr 1 (list.length + 1) (catF list.length (fI list) (litF [I (dirI (((at_ s.Points k.toNat).X) - ((at_ s.Points ((k - 1).toNat)).X)) (((at_ s.Points k.toNat).Y) - ((at_ s.Points ((k - 1).toNat)).Y)))] 1)))] [inR .i64 (k + 1)] (by kernel_rfl) hB ⟨(inR_i64 (by omega) (by omega)), trivial⟩ ?_
        refine ae_weak hB [(703, 50)] (T := [(1, .ref 1 0), (3, .arr 703), (4, I (k + 1))]) (O := [(1, .box [slPoint false s.Points]), (703, .arr 1 ((list ++ [(dirI (((at_ s.Points k.toNat).X) - ((at_ s.Points ((k - 1).toNat)).X)) (((at_ s.Points k.toNat).Y) - ((at_ s.Points ((k - 1).toNat)).Y)))]).length) (fI (list ++ [(dirI (((at_ s.Points k.toNat).X) - ((at_ s.Points ((k - 1).toNat)).X)) (((at_ s.Points k.toNat).Y) - ((at_ s.Points ((k - 1).toNat)).Y)))])))]) rfl (⟨.inl rfl, .inl rfl, .inl rfl, trivial⟩) (⟨.inl rfl, .inr ⟨rfl, (by first | rfl | (simp; done) | (simp; omega) | omega), fun i hi => .inl (cat_snoc (enc := cI) (xs := list) rfl i hi)⟩, trivial⟩) (ae_again _ (by omega) ⟨(list ++ [(dirI (((at_ s.Points k.toNat).X) - ((at_ s.Points ((k - 1).toNat)).X)) (((at_ s.Points k.toNat).Y) - ((at_ s.Points ((k - 1).toNat)).Y)))]), (k + 1), rfl, (by omega), (by rw [hd0]; first | (exact (dirsL_same hi0.1 (by omega) (by omega)).symm) | (exact (dirsL_more hi0.1 (by omega)).symm)), rfl⟩)
    · refine aw_reg [(4, .dec true)] [1, 3, 4, 5, 6, 36] [1, 5, 6, 703] [.ref 1 0, .arr 703, I k, .ref 5 0, .ref 6 0, Bv true] [some (.box [slPoint false s.Points]), some (.box [I ((at_ s.Points ((k - 1).toNat)).X), I ((at_ s.Points ((k - 1).toNat)).Y), I ((at_ s.Points ((k - 1).toNat)).T)]), some (.box [I ((at_ s.Points k.toNat).X), I ((at_ s.Points k.toNat).Y), I ((at_ s.Points k.toNat).T)]), some (.arr 1 list.length (fI list))] [((at_ s.Points ((k - 1).toNat)).X) ≠ ((at_ s.Points k.toNat).X)] (by kernel_rfl) hB ⟨h2, trivial⟩ ?_
      refine ae_then ?_
      refine aw_true rfl ?_
      refine aw_reg [(11, .call [(true, I (((at_ s.Points k.toNat).X) - ((at_ s.Points ((k - 1).toNat)).X))), (true, I (((at_ s.Points k.toNat).Y) - ((at_ s.Points ((k - 1).toNat)).Y)))] true (I (dirI (((at_ s.Points k.toNat).X) - ((at_ s.Points ((k - 1).toNat)).X)) (((at_ s.Points k.toNat).Y) - ((at_ s.Points ((k - 1).toNat)).Y))))), (12, .new 49), (13, .new 50)] [1, 3, 4] [1, 50] [.ref 1 0, .arr 50, I k] [some (.box [slPoint false s.Points]), some (.arr 1 (list.length + 1) (catF list.length (fI list) (litF [I (dirI (((at_ s.Points k.toNat).X) - ((at_ s.Points ((k - 1).toNat)).X)) (((at_ s.Points k.toNat).Y) - ((at_ s.Points ((k - 1).toNat)).Y)))] 1)))] [inR .i64 (((at_ s.Points k.toNat).X) - ((at_ s.Points ((k - 1).toNat)).X)), inR .i64 (((at_ s.Points k.toNat).Y) - ((at_ s.Points ((k - 1).toNat)).Y)), Con Tryd.prog 101 [I (((at_ s.Points k.toNat).X) - ((at_ s.Points ((k - 1).toNat)).X)), I (((at_ s.Points k.toNat).Y) - ((at_ s.Points ((k - 1).toNat)).Y))] true (I (dirI (((at_ s.Points k.toNat).X) - ((at_ s.Points ((k - 1).toNat)).X)) (((at_ s.Points k.toNat).Y) - ((at_ s.Points ((k - 1).toNat)).Y)))) ∧ ((I (((at_ s.Points k.toNat).X) - ((at_ s.Points ((k - 1).toNat)).X)) : AV) = I (((at_ s.Points k.toNat).X) - ((at_ s.Points ((k - 1).toNat)).X))) ∧ ((I (((at_ s.Points k.toNat).Y) - ((at_ s.Points ((k - 1).toNat)).Y)) : AV) = I (((at_ s.Points k.toNat).Y) - ((at_ s.Points ((k - 1).toNat)).Y))) ∧ True, (list.length + 1) * 8 ≤ 140737488355328] (by kernel_rfl) hB ⟨(inR_i64 (by omega) (by omega)), (inR_i64 (by omega) (by omega)), ⟨(directionOf_ok (((at_ s.Points k.toNat).X) - ((at_ s.Points ((k - 1).toNat)).X)) (((at_ s.Points k.toNat).Y) - ((at_ s.Points ((k - 1).toNat)).Y)) (by omega)), rfl, rfl, trivial⟩, (by omega), trivial⟩ ?_
      refine ae_block 1 ?_
      refine ae_then ?_
      refine aw_reg [] [1, 3, 4] [1, 50] [.ref 1 0, .arr 50, I (k + 1)] [some (.box [slPoint false s.Points]), some (.arr 1 (list.length + 1) (catF list.length (fI list) (litF [I (dirI (((at_ s.Points k.toNat).X) - ((at_ s.Points ((k - 1).toNat)).X)) (((at_ s.Points k.toNat).Y) - ((at_ s.Points ((k - 1).toNat)).Y)))] 1)))] [inR .i64 (k + 1)] (by kernel_rfl) hB ⟨(inR_i64 (by omega) (by omega)), trivial⟩ ?_
      refine ae_weak hB [(703, 50)] (T := [(1, .ref 1 0), (3, .arr 703), (4, I (k + 1))]) (O := [(1, .box [slPoint false s.Points]), (703, .arr 1 ((list ++ [(dirI (((at_ s.Points k.toNat).X) - ((at_ s.Points ((k - 1).toNat)).X)) (((at_ s.Points k.toNat).Y) - ((at_ s.Points ((k - 1).toNat)).Y)))]).length) (fI (list ++ [(dirI (((at_ s.Points k.toNat).X) - ((at_ s.Points ((k - 1).toNat)).X)) (((at_ s.Points k.toNat).Y) - ((at_ s.Points ((k - 1).toNat)).Y)))])))]) rfl (⟨.inl rfl, .inl rfl, .inl rfl, trivial⟩) (⟨.inl rfl, .inr ⟨rfl, (by first | rfl | (simp; done) | (simp; omega) | omega), fun i hi => .inl (cat_snoc (enc := cI) (xs := list) rfl i hi)⟩, trivial⟩) (ae_again _ (by omega) ⟨(list ++ [(dirI (((at_ s.Points k.toNat).X) - ((at_ s.Points ((k - 1).toNat)).X)) (((at_ s.Points k.toNat).Y) - ((at_ s.Points ((k - 1).toNat)).Y)))]), (k + 1), rfl, (by omega), (by rw [hd0]; first | (exact (dirsL_same hi0.1 (by omega) (by omega)).symm) | (exact (dirsL_more hi0.1 (by omega)).symm)), rfl⟩)
  · have hie : k.toNat = s.Points.length := by omega
    rw [hie] at hd0
    subst hd0
    refine aw_reg [(4, .dec false)] [1, 3, 4, 11] [1, 703] [.ref 1 0, .arr 703, I k, Bv false] [some (.box [slPoint false s.Points]), some (.arr 1 ((dirsL s.Points s.Points.length).length) (fI (dirsL s.Points s.Points.length)))] [¬ (k < (s.Points.length : Int))] (by kernel_rfl) hB ⟨h1, trivial⟩ ?_
    refine ae_then ?_
    refine aw_false rfl ?_
    refine aw_exit ?_
    refine ae_exit_then ?_
    refine ae_exit_then ?_
    refine ae_exit_same ?_
    refine ae_then ?_
    refine aw_seq ?_
    refine aw_reg [] [2] [703] [.arr 703] [some (.arr 1 ((dirsL s.Points s.Points.length).length) (fI (dirsL s.Points s.Points.length)))] [] (by kernel_rfl) hB trivial ?_
    refine ae_then ?_
    refine aw_ret ?_
    refine ae_ret hB (.arr 703) (by kernel_rfl) (.inr ⟨(fun _ => rfl), rfl, rfl, fun i _ => .inl rfl⟩) rfl (fun _ => (tagI true _))


-- impl.BendOf
theorem BendOf_ok (s : Stroke) (ok : okStroke' s = true) : Con Tryd.prog 62 [.agg [slPoint false s.Points]] true (.tup [I (bendT s), I 0]) := by
  have hln := okS_len ok
  have hdl := dirsL_len s.Points s.Points.length
  refine fn_ok (fn := Tryd.f62) (nt := 35) Tryd.func62 rfl rfl rfl rfl (by simp [taggedL, tagged, tagPoint]) fun B hB => ?_
  refine aw_lens (x := .agg [slPoint false s.Points]) 0 rfl (fun len_s => ?_)
  simp [LenOK, LenL, cPoint, fPoint, slPoint] at len_s
  refine aw_seq ?_
  refine aw_reg [(0, .new 1)] [1] [1] [.ref 1 0] [some (.box [slPoint false s.Points])] [] (by kernel_rfl) hB trivial ?_
  refine ae_then ?_
  refine aw_seq ?_
  refine aw_seq ?_
  refine aw_reg [(1, .call [(true, .agg [slPoint false s.Points])] true (Bv true))] [1, 9] [1] [.ref 1 0, Bv false] [some (.box [slPoint false s.Points])] [Con Tryd.prog 44 [.agg [slPoint false s.Points]] true (Bv true) ∧ ((.agg [slPoint false s.Points] : AV) = .agg [slPoint false s.Points]) ∧ True] (by kernel_rfl) hB ⟨⟨(con_bool ok (ValidStroke_ok s)), rfl, trivial⟩, trivial⟩ ?_
  refine ae_then ?_
  refine aw_false rfl ?_
  refine aw_skip ?_
  refine ae_then ?_
  refine aw_seq ?_
  refine aw_reg [(1, .call [(true, .agg [slPoint false s.Points])] true (slI true (dirsL s.Points s.Points.length)))] [4] [] [slI true (dirsL s.Points s.Points.length)] [] [Con Tryd.prog 89 [.agg [slPoint false s.Points]] true (slI true (dirsL s.Points s.Points.length)) ∧ ((.agg [slPoint false s.Points] : AV) = .agg [slPoint false s.Points]) ∧ True] (by kernel_rfl) hB ⟨⟨(directionsOf_ok s ok), rfl, trivial⟩, trivial⟩ ?_
  refine ae_then ?_
  refine aw_seq ?_
  refine aw_reg [] [4, 5] [] [slI true (dirsL s.Points s.Points.length), I 0] [] [] (by kernel_rfl) hB trivial ?_
  refine ae_then ?_
  refine aw_seq ?_
  refine aw_seq ?_
  refine aw_reg [] [4, 5, 6] [] [slI true (dirsL s.Points s.Points.length), I 0, I 1] [] [] (by kernel_rfl) hB trivial ?_
  refine ae_then ?_
  refine aw_block ?_
  refine aw_loop (fun gn gσ => ∃ (sum : Int) (k : Int), gn = (((dirsL s.Points s.Points.length).length : Int) - k).toNat ∧ (1 ≤ k ∧ (k ≤ ((dirsL s.Points s.Points.length).length : Int) ∨ k = 1)) ∧ (sum = bendS (dirsL s.Points s.Points.length) k.toNat) ∧ (-3 * k ≤ sum ∧ sum ≤ 4 * k) ∧ gσ = mkS [(4, slI true (dirsL s.Points s.Points.length)), (5, I sum), (6, I k)] []) ((((dirsL s.Points s.Points.length).length : Int) - 1).toNat) ⟨0, 1, rfl, (by omega), (by exact (bendS_one _ _ (by decide)).symm), (by omega), rfl⟩ (fun gn gσ hI => ?_)
  obtain ⟨sum, k, rfl, hb0, hb1, hb2, rfl⟩ := hI
  refine aw_seq ?_
  refine aw_seq ?_
  by_cases h1 : k < (((dirsL s.Points s.Points.length).length) : Int)
  · have hi : k.toNat < (dirsL s.Points s.Points.length).length := by omega
    have hi2 : (k - 1).toNat < (dirsL s.Points s.Points.length).length := by omega
    have hd1 := dirsL_bd _ _ _ hi
    have hd2 := dirsL_bd _ _ _ hi2
    have hbb := bendI_bd (at_ (dirsL s.Points s.Points.length) (k - 1).toNat) (at_ (dirsL s.Points s.Points.length) k.toNat)
    refine aw_reg [(3, .dec true)] [4, 5, 6, 15] [] [slI true (dirsL s.Points s.Points.length), I sum, I k, Bv true] [] [k < (((dirsL s.Points s.Points.length).length) : Int)] (by kernel_rfl) hB ⟨h1, trivial⟩ ?_
    refine ae_then ?_
    refine aw_true rfl ?_
    refine aw_skip ?_
    refine ae_then ?_
    refine aw_seq ?_
    refine aw_block ?_
    refine aw_reg [(13, .nn)] [4, 5, 6] [] [slI true (dirsL s.Points s.Points.length), I (sum + ((((((at_ (dirsL s.Points s.Points.length) k.toNat) - (at_ (dirsL s.Points s.Points.length) ((k - 1).toNat))) + 8) + 3) % 8) - 3)), I k] [] [(0 : Int) ≤ k ∧ k < (((dirsL s.Points s.Points.length).length) : Int), inR .i64 (k - 1), (0 : Int) ≤ (k - 1) ∧ (k - 1) < (((dirsL s.Points s.Points.length).length) : Int), inR .i64 ((at_ (dirsL s.Points s.Points.length) k.toNat) - (at_ (dirsL s.Points s.Points.length) ((k - 1).toNat))), inR .i64 (((at_ (dirsL s.Points s.Points.length) k.toNat) - (at_ (dirsL s.Points s.Points.length) ((k - 1).toNat))) + 8), inR .i64 ((((at_ (dirsL s.Points s.Points.length) k.toNat) - (at_ (dirsL s.Points s.Points.length) ((k - 1).toNat))) + 8) + 3), (0 : Int) ≤ ((((at_ (dirsL s.Points s.Points.length) k.toNat) - (at_ (dirsL s.Points s.Points.length) ((k - 1).toNat))) + 8) + 3) ∧ (0 : Int) < 8, inR .i64 ((((((at_ (dirsL s.Points s.Points.length) k.toNat) - (at_ (dirsL s.Points s.Points.length) ((k - 1).toNat))) + 8) + 3) % 8) - 3), inR .i64 (sum + ((((((at_ (dirsL s.Points s.Points.length) k.toNat) - (at_ (dirsL s.Points s.Points.length) ((k - 1).toNat))) + 8) + 3) % 8) - 3))] (by kernel_rfl) hB ⟨⟨(by omega), (by omega)⟩, (inR_i64 (by omega) (by omega)), ⟨(by omega), (by omega)⟩, (inR_i64 (by omega) (by omega)), (inR_i64 (by omega) (by omega)), (inR_i64 (by omega) (by omega)), ⟨(by omega), (by omega)⟩, (inR_i64 (by omega) (by omega)), (inR_i64 (by omega) (by omega)), trivial⟩ ?_
    refine ae_block 1 ?_
    refine ae_then ?_
    refine aw_reg [] [4, 5, 6] [] [slI true (dirsL s.Points s.Points.length), I (sum + ((((((at_ (dirsL s.Points s.Points.length) k.toNat) - (at_ (dirsL s.Points s.Points.length) ((k - 1).toNat))) + 8) + 3) % 8) - 3)), I (k + 1)] [] [inR .i64 (k + 1)] (by kernel_rfl) hB ⟨(inR_i64 (by omega) (by omega)), trivial⟩ ?_
    exact ae_again _ (by omega) ⟨(sum + ((((((at_ (dirsL s.Points s.Points.length) k.toNat) - (at_ (dirsL s.Points s.Points.length) ((k - 1).toNat))) + 8) + 3) % 8) - 3)), (k + 1), rfl, (by omega), (by rw [bendS_succ hb0.1, ← hb1] <;> first | rfl | (unfold bendI; omega)), (by first | omega | (unfold bendI at *; omega)), rfl⟩
  · have hbt : sum = bendT s := by rw [hb1]; unfold bendT; by_cases e : k = 1; (subst e; rw [bendS_one _ _ (by omega), bendS_one _ _ (by omega)]); (congr 1; omega)
    refine aw_reg [(3, .dec false)] [4, 5, 6, 15] [] [slI true (dirsL s.Points s.Points.length), I sum, I k, Bv false] [] [¬ (k < (((dirsL s.Points s.Points.length).length) : Int))] (by kernel_rfl) hB ⟨h1, trivial⟩ ?_
    refine ae_then ?_
    refine aw_false rfl ?_
    refine aw_exit ?_
    refine ae_exit_then ?_
    refine ae_exit_then ?_
    refine ae_exit_same ?_
    refine ae_then ?_
    refine aw_seq ?_
    refine aw_reg [] [2, 3] [] [I sum, I 0] [] [] (by kernel_rfl) hB trivial ?_
    refine ae_then ?_
    refine aw_ret ?_
    refine ae_ret hB (.tup [I sum, I 0]) (by kernel_rfl) (.inl (by rw [hbt])) rfl (fun _ => (by simp [tagged, taggedL]))


-- impl.firstOf
theorem firstOf_ok (s : Stroke) (ok : okStroke' s = true) : Con Tryd.prog 64 [.agg [slPoint false s.Points]] true (.agg [I ((at_ s.Points 0).X), I ((at_ s.Points 0).Y), I ((at_ s.Points 0).T)]) := by
  have hln := okS_len ok
  refine fn_ok (fn := Tryd.f64) (nt := 7) Tryd.func64 rfl rfl rfl rfl (by simp [taggedL, tagged, tagPoint]) fun B hB => ?_
  refine aw_lens (x := .agg [slPoint false s.Points]) 0 rfl (fun len_s => ?_)
  simp [LenOK, LenL, cPoint, fPoint, slPoint] at len_s
  refine aw_seq ?_
  refine aw_reg [(0, .new 1), (1, .new 2)] [1, 2] [1, 2] [.ref 1 0, .ref 2 0] [some (.box [slPoint false s.Points]), some (.box [I 0, I 0, I 0])] [] (by kernel_rfl) hB trivial ?_
  refine ae_then ?_
  refine aw_seq ?_
  refine aw_reg [] [2] [2] [.ref 2 0] [some (.box [I ((at_ s.Points 0).X), I ((at_ s.Points 0).Y), I ((at_ s.Points 0).T)])] [(0 : Int) ≤ 0 ∧ 0 < (s.Points.length : Int)] (by kernel_rfl) hB ⟨⟨(by omega), (by omega)⟩, trivial⟩ ?_
  refine ae_then ?_
  refine aw_ret ?_
  refine ae_ret hB (.agg [I ((at_ s.Points 0).X), I ((at_ s.Points 0).Y), I ((at_ s.Points 0).T)]) (by kernel_rfl) (.inl rfl) rfl (fun _ => (by simp [tagged, taggedL]))


-- impl.lastOf
theorem lastOf_ok (s : Stroke) (ok : okStroke' s = true) : Con Tryd.prog 65 [.agg [slPoint false s.Points]] true (.agg [I ((at_ s.Points (s.Points.length - 1)).X), I ((at_ s.Points (s.Points.length - 1)).Y), I ((at_ s.Points (s.Points.length - 1)).T)]) := by
  have hln := okS_len ok
  refine fn_ok (fn := Tryd.f65) (nt := 11) Tryd.func65 rfl rfl rfl rfl (by simp [taggedL, tagged, tagPoint]) fun B hB => ?_
  refine aw_lens (x := .agg [slPoint false s.Points]) 0 rfl (fun len_s => ?_)
  simp [LenOK, LenL, cPoint, fPoint, slPoint] at len_s
  refine aw_seq ?_
  refine aw_reg [(0, .new 1), (1, .new 2)] [1, 2] [1, 2] [.ref 1 0, .ref 2 0] [some (.box [slPoint false s.Points]), some (.box [I 0, I 0, I 0])] [] (by kernel_rfl) hB trivial ?_
  refine ae_then ?_
  refine aw_seq ?_
  refine aw_reg [] [2] [2] [.ref 2 0] [some (.box [I ((at_ s.Points (((s.Points.length : Int) - 1).toNat)).X), I ((at_ s.Points (((s.Points.length : Int) - 1).toNat)).Y), I ((at_ s.Points (((s.Points.length : Int) - 1).toNat)).T)])] [inR .i64 ((s.Points.length : Int) - 1), (0 : Int) ≤ ((s.Points.length : Int) - 1) ∧ ((s.Points.length : Int) - 1) < (s.Points.length : Int)] (by kernel_rfl) hB ⟨(inR_i64 (by omega) (by omega)), ⟨(by omega), (by omega)⟩, trivial⟩ ?_
  refine ae_then ?_
  refine aw_ret ?_
  refine ae_ret hB (.agg [I ((at_ s.Points (((s.Points.length : Int) - 1).toNat)).X), I ((at_ s.Points (((s.Points.length : Int) - 1).toNat)).Y), I ((at_ s.Points (((s.Points.length : Int) - 1).toNat)).T)]) (by kernel_rfl) (.inl (by first | rfl | (have e : ((s.Points.length : Int) - 1).toNat = s.Points.length - 1 := (by omega); rw [e]))) rfl (fun _ => (by simp [tagged, taggedL]))


-- impl.StraightOf
theorem StraightOf_ok (s : Stroke) (ok : okStroke' s = true) : Con Tryd.prog 63 [.agg [slPoint false s.Points]] true (.tup [I (strI s), I 0]) := by
  have hln := okS_len ok
  have hpf := okS_at ok (j := 0) (by omega)
  have hpl := okS_at ok (j := s.Points.length - 1) (by omega)
  have hpf' := okP_iff.1 hpf
  have hpl' := okP_iff.1 hpl
  have hbx := boxS_all ok
  unfold okBox at hbx
  have hsb := sumS_bd ok s.Points.length (Nat.le_refl _)
  have heb := ends_bd ok
  have hle : ((s.Points.length : Int) - 1).toNat = s.Points.length - 1 := by omega
  have hplz : okP (at_ s.Points ((s.Points.length : Int) - 1).toNat) = true := by rw [hle]; exact hpl
  have hplz' := okP_iff.1 hplz
  have heb2 := segI_bd hpf hplz
  have heb3 := segI_bd hpf hpl
  refine fn_ok (fn := Tryd.f63) (nt := 21) Tryd.func63 rfl rfl rfl rfl (by simp [taggedL, tagged, tagPoint]) fun B hB => ?_
  refine aw_lens (x := .agg [slPoint false s.Points]) 0 rfl (fun len_s => ?_)
  simp [LenOK, LenL, cPoint, fPoint, slPoint] at len_s
  refine aw_seq ?_
  refine aw_reg [(0, .new 1)] [1] [1] [.ref 1 0] [some (.box [slPoint false s.Points])] [] (by kernel_rfl) hB trivial ?_
  refine ae_then ?_
  refine aw_seq ?_
  refine aw_seq ?_
  refine aw_reg [(1, .call [(true, .agg [slPoint false s.Points])] true (Bv true))] [1, 7] [1] [.ref 1 0, Bv false] [some (.box [slPoint false s.Points])] [Con Tryd.prog 44 [.agg [slPoint false s.Points]] true (Bv true) ∧ ((.agg [slPoint false s.Points] : AV) = .agg [slPoint false s.Points]) ∧ True] (by kernel_rfl) hB ⟨⟨(con_bool ok (ValidStroke_ok s)), rfl, trivial⟩, trivial⟩ ?_
  refine ae_then ?_
  refine aw_false rfl ?_
  refine aw_skip ?_
  refine ae_then ?_
  refine aw_seq ?_
  refine aw_reg [(1, .call [(true, .agg [slPoint false s.Points])] true (I (sumS s.Points s.Points.length)))] [1, 4] [1] [.ref 1 0, I (sumS s.Points s.Points.length)] [some (.box [slPoint false s.Points])] [Con Tryd.prog 60 [.agg [slPoint false s.Points]] true (I (sumS s.Points s.Points.length)) ∧ ((.agg [slPoint false s.Points] : AV) = .agg [slPoint false s.Points]) ∧ True] (by kernel_rfl) hB ⟨⟨(strokeLength_ok s ok), rfl, trivial⟩, trivial⟩ ?_
  refine ae_then ?_
  refine aw_seq ?_
  refine aw_seq ?_
  by_cases h1 : (sumS s.Points s.Points.length) = 0
  · refine aw_reg [(1, .dec true)] [1, 4, 11] [1] [.ref 1 0, I (sumS s.Points s.Points.length), Bv true] [some (.box [slPoint false s.Points])] [(sumS s.Points s.Points.length) = 0] (by kernel_rfl) hB ⟨h1, trivial⟩ ?_
    refine ae_then ?_
    refine aw_true rfl ?_
    refine aw_seq ?_
    refine aw_reg [] [2, 3] [] [I 1000, I 0] [] [] (by kernel_rfl) hB trivial ?_
    refine ae_then ?_
    refine aw_ret ?_
    refine ae_ret_then ?_
    refine ae_ret hB (.tup [I 1000, I 0]) (by kernel_rfl) (.inl (by unfold strI endsI; simp_all [hle])) rfl (fun _ => (by simp [tagged, taggedL]))
  · refine aw_reg [(1, .dec false)] [1, 4, 11] [1] [.ref 1 0, I (sumS s.Points s.Points.length), Bv false] [some (.box [slPoint false s.Points])] [¬ ((sumS s.Points s.Points.length) = 0)] (by kernel_rfl) hB ⟨h1, trivial⟩ ?_
    refine ae_then ?_
    refine aw_false rfl ?_
    refine aw_skip ?_
    refine ae_then ?_
    refine aw_seq ?_
    refine aw_reg [(1, .call [(true, .agg [slPoint false s.Points])] true (.agg [I ((at_ s.Points 0).X), I ((at_ s.Points 0).Y), I ((at_ s.Points 0).T)])), (3, .call [(true, .agg [slPoint false s.Points])] true (.agg [I ((at_ s.Points (s.Points.length - 1)).X), I ((at_ s.Points (s.Points.length - 1)).Y), I ((at_ s.Points (s.Points.length - 1)).T)])), (4, .call [(true, .agg [I ((at_ s.Points 0).X), I ((at_ s.Points 0).Y), I ((at_ s.Points 0).T)]), (true, .agg [I ((at_ s.Points (s.Points.length - 1)).X), I ((at_ s.Points (s.Points.length - 1)).Y), I ((at_ s.Points (s.Points.length - 1)).T)])] true (I (segI (at_ s.Points 0) (at_ s.Points (s.Points.length - 1))))), (7, .nn)] [2, 3] [] [I (min 1000 ((1000 * (segI (at_ s.Points 0) (at_ s.Points (s.Points.length - 1)))) / (sumS s.Points s.Points.length))), I 0] [] [Con Tryd.prog 64 [.agg [slPoint false s.Points]] true (.agg [I ((at_ s.Points 0).X), I ((at_ s.Points 0).Y), I ((at_ s.Points 0).T)]) ∧ ((.agg [slPoint false s.Points] : AV) = .agg [slPoint false s.Points]) ∧ True, Con Tryd.prog 65 [.agg [slPoint false s.Points]] true (.agg [I ((at_ s.Points (s.Points.length - 1)).X), I ((at_ s.Points (s.Points.length - 1)).Y), I ((at_ s.Points (s.Points.length - 1)).T)]) ∧ ((.agg [slPoint false s.Points] : AV) = .agg [slPoint false s.Points]) ∧ True, Con Tryd.prog 67 [.agg [I ((at_ s.Points 0).X), I ((at_ s.Points 0).Y), I ((at_ s.Points 0).T)], .agg [I ((at_ s.Points (s.Points.length - 1)).X), I ((at_ s.Points (s.Points.length - 1)).Y), I ((at_ s.Points (s.Points.length - 1)).T)]] true (I (segI (at_ s.Points 0) (at_ s.Points (s.Points.length - 1)))) ∧ ((.agg [I ((at_ s.Points 0).X), I ((at_ s.Points 0).Y), I ((at_ s.Points 0).T)] : AV) = .agg [I ((at_ s.Points 0).X), I ((at_ s.Points 0).Y), I ((at_ s.Points 0).T)]) ∧ ((.agg [I ((at_ s.Points (s.Points.length - 1)).X), I ((at_ s.Points (s.Points.length - 1)).Y), I ((at_ s.Points (s.Points.length - 1)).T)] : AV) = .agg [I ((at_ s.Points (s.Points.length - 1)).X), I ((at_ s.Points (s.Points.length - 1)).Y), I ((at_ s.Points (s.Points.length - 1)).T)]) ∧ True, inR .i64 (1000 * (segI (at_ s.Points 0) (at_ s.Points (s.Points.length - 1)))), (0 : Int) ≤ (1000 * (segI (at_ s.Points 0) (at_ s.Points (s.Points.length - 1)))) ∧ (0 : Int) < (sumS s.Points s.Points.length) ∧ inR .i64 (1000 * (segI (at_ s.Points 0) (at_ s.Points (s.Points.length - 1))))] (by kernel_rfl) hB ⟨⟨(firstOf_ok s ok), rfl, trivial⟩, ⟨(lastOf_ok s ok), rfl, trivial⟩, ⟨(lengthOf_ok (at_ s.Points 0) (at_ s.Points (s.Points.length - 1)) (by assumption) (by assumption)), rfl, rfl, trivial⟩, (inR_i64 (by omega) (by omega)), ⟨(by omega), (by omega), (inR_i64 (by omega) (by omega))⟩, trivial⟩ ?_
    refine ae_then ?_
    refine aw_ret ?_
    refine ae_ret hB (.tup [I (min 1000 ((1000 * (segI (at_ s.Points 0) (at_ s.Points (s.Points.length - 1)))) / (sumS s.Points s.Points.length))), I 0]) (by kernel_rfl) (.inl (by unfold strI endsI; simp_all [hle])) rfl (fun _ => (by simp [tagged, taggedL]))


-- impl.joinBoxes
theorem joinBoxes_ok (a : Box) (b : Box) : Con Tryd.prog 68 [.agg [I a.X1, I a.Y1, I a.X2, I a.Y2], .agg [I b.X1, I b.Y1, I b.X2, I b.Y2]] true (.agg [I ((joinB a b).X1), I ((joinB a b).Y1), I ((joinB a b).X2), I ((joinB a b).Y2)]) := by
  refine fn_ok (fn := Tryd.f68) (nt := 26) Tryd.func68 rfl rfl rfl rfl (by simp [taggedL, tagged]) fun B hB => ?_
  refine aw_seq ?_
  refine aw_reg [(0, .new 2), (1, .new 3), (2, .new 4)] [2, 3, 4] [2, 3, 4] [.ref 2 0, .ref 3 0, .ref 4 0] [some (.box [I a.X1, I a.Y1, I a.X2, I a.Y2]), some (.box [I b.X1, I b.Y1, I b.X2, I b.Y2]), some (.box [I 0, I 0, I 0, I 0])] [] (by kernel_rfl) hB trivial ?_
  refine ae_then ?_
  refine aw_seq ?_
  refine aw_reg [] [4] [4] [.ref 4 0] [some (.box [I (min a.X1 b.X1), I (min a.Y1 b.Y1), I (max a.X2 b.X2), I (max a.Y2 b.Y2)])] [] (by kernel_rfl) hB trivial ?_
  refine ae_then ?_
  refine aw_ret ?_
  refine ae_ret hB (.agg [I (min a.X1 b.X1), I (min a.Y1 b.Y1), I (max a.X2 b.X2), I (max a.Y2 b.Y2)]) (by kernel_rfl) (.inl (by first | rfl | (refine congrArg Bv ?_; simp [*]; done) | (refine congrArg Bv ?_; simp [*]; omega) | (refine congrArg Bv ?_; simp_all []; done) | (refine congrArg Bv ?_; simp_all []; omega))) rfl (fun _ => (by simp [tagged, taggedL]))


-- impl.boxOfStroke
theorem boxOfStroke_ok (s : Stroke) (ok : okStroke' s = true) : Con Tryd.prog 46 [.agg [slPoint false s.Points]] true (.agg [I ((boxS s.Points s.Points.length).X1), I ((boxS s.Points s.Points.length).Y1), I ((boxS s.Points s.Points.length).X2), I ((boxS s.Points s.Points.length).Y2)]) := by
  have hln := okS_len ok
  refine fn_ok (fn := Tryd.f46) (nt := 38) Tryd.func46 rfl rfl rfl rfl (by simp [taggedL, tagged, tagPoint]) fun B hB => ?_
  refine aw_lens (x := .agg [slPoint false s.Points]) 0 rfl (fun len_s => ?_)
  simp [LenOK, LenL, cPoint, fPoint, slPoint] at len_s
  refine aw_seq ?_
  refine aw_reg [(0, .new 1), (1, .new 2)] [1, 2] [1, 2] [.ref 1 0, .ref 2 0] [some (.box [slPoint false s.Points]), some (.box [I 0, I 0, I 0, I 0])] [] (by kernel_rfl) hB trivial ?_
  refine ae_then ?_
  refine aw_seq ?_
  refine aw_reg [(1, .call [(true, .agg [slPoint false s.Points])] true (.agg [I ((at_ s.Points 0).X), I ((at_ s.Points 0).Y), I ((at_ s.Points 0).T)])), (2, .new 3)] [1, 2, 3] [1, 2, 3] [.ref 1 0, .ref 2 0, .ref 3 0] [some (.box [slPoint false s.Points]), some (.box [I 0, I 0, I 0, I 0]), some (.box [I ((at_ s.Points 0).X), I ((at_ s.Points 0).Y), I ((at_ s.Points 0).T)])] [Con Tryd.prog 64 [.agg [slPoint false s.Points]] true (.agg [I ((at_ s.Points 0).X), I ((at_ s.Points 0).Y), I ((at_ s.Points 0).T)]) ∧ ((.agg [slPoint false s.Points] : AV) = .agg [slPoint false s.Points]) ∧ True] (by kernel_rfl) hB ⟨⟨(firstOf_ok s ok), rfl, trivial⟩, trivial⟩ ?_
  refine ae_then ?_
  refine aw_seq ?_
  refine aw_reg [(9, .new 4)] [1, 2, 4] [1, 2, 4] [.ref 1 0, .ref 2 0, .ref 4 0] [some (.box [slPoint false s.Points]), some (.box [I 0, I 0, I 0, I 0]), some (.box [I ((at_ s.Points 0).X), I ((at_ s.Points 0).Y), I ((at_ s.Points 0).X), I ((at_ s.Points 0).Y)])] [] (by kernel_rfl) hB trivial ?_
  refine ae_then ?_
  refine aw_seq ?_
  refine aw_seq ?_
  refine aw_reg [] [2, 4, 19, 20, 21] [2, 4] [.ref 2 0, .ref 4 0, slPoint false s.Points, I (s.Points.length : Int), I 0] [some (.box [I 0, I 0, I 0, I 0]), some (.box [I ((at_ s.Points 0).X), I ((at_ s.Points 0).Y), I ((at_ s.Points 0).X), I ((at_ s.Points 0).Y)])] [] (by kernel_rfl) hB trivial ?_
  refine ae_then ?_
  refine aw_block ?_
  refine aw_loop (fun gn gσ => ∃ (t21 : Int) (x1 : Int) (y1 : Int) (x2 : Int) (y2 : Int), gn = ((s.Points.length : Int) - t21).toNat ∧ (0 ≤ t21 ∧ t21 ≤ (s.Points.length : Int)) ∧ (Box.mk x1 y1 x2 y2 = boxS s.Points t21.toNat) ∧ gσ = mkS [(2, .ref 2 0), (4, .ref 4 0), (19, slPoint false s.Points), (20, I (s.Points.length : Int)), (21, I t21)] [(2, .box [I 0, I 0, I 0, I 0]), (4, .box [I x1, I y1, I x2, I y2])]) (((s.Points.length : Int) - 0).toNat) ⟨0, (at_ s.Points 0).X, (at_ s.Points 0).Y, (at_ s.Points 0).X, (at_ s.Points 0).Y, rfl, (by omega), (by first | rfl | exact (boxS_one _).symm), rfl⟩ (fun gn gσ hI => ?_)
  obtain ⟨t21, x1, y1, x2, y2, rfl, hi0, hb1, rfl⟩ := hI
  refine aw_seq ?_
  by_cases h1 : t21 < (s.Points.length : Int)
  · have hi : t21.toNat < s.Points.length := by omega
    refine aw_reg [(0, .dec true)] [2, 4, 19, 20, 21, 22] [2, 4] [.ref 2 0, .ref 4 0, slPoint false s.Points, I (s.Points.length : Int), I t21, Bv true] [some (.box [I 0, I 0, I 0, I 0]), some (.box [I x1, I y1, I x2, I y2])] [t21 < (s.Points.length : Int)] (by kernel_rfl) hB ⟨h1, trivial⟩ ?_
    refine ae_then ?_
    refine aw_seq ?_
    refine aw_true rfl ?_
    refine aw_skip ?_
    refine ae_then ?_
    refine aw_seq ?_
    refine aw_block ?_
    refine aw_seq ?_
    refine aw_reg [(2, .new 6)] [2, 4, 6, 19, 20, 21] [2, 4, 6] [.ref 2 0, .ref 4 0, .ref 6 0, slPoint false s.Points, I (s.Points.length : Int), I t21] [some (.box [I 0, I 0, I 0, I 0]), some (.box [I x1, I y1, I x2, I y2]), some (.box [I ((at_ s.Points t21.toNat).X), I ((at_ s.Points t21.toNat).Y), I ((at_ s.Points t21.toNat).T)])] [(0 : Int) ≤ t21 ∧ t21 < (s.Points.length : Int)] (by kernel_rfl) hB ⟨⟨(by omega), (by omega)⟩, trivial⟩ ?_
    refine ae_then ?_
    refine aw_reg [(10, .call [(true, .agg [I x1, I y1, I x2, I y2]), (true, .agg [I ((at_ s.Points t21.toNat).X), I ((at_ s.Points t21.toNat).Y), I ((at_ s.Points t21.toNat).X), I ((at_ s.Points t21.toNat).Y)])] true (.agg [I ((joinB (Box.mk x1 y1 x2 y2) (Box.mk ((at_ s.Points t21.toNat).X) ((at_ s.Points t21.toNat).Y) ((at_ s.Points t21.toNat).X) ((at_ s.Points t21.toNat).Y))).X1), I ((joinB (Box.mk x1 y1 x2 y2) (Box.mk ((at_ s.Points t21.toNat).X) ((at_ s.Points t21.toNat).Y) ((at_ s.Points t21.toNat).X) ((at_ s.Points t21.toNat).Y))).Y1), I ((joinB (Box.mk x1 y1 x2 y2) (Box.mk ((at_ s.Points t21.toNat).X) ((at_ s.Points t21.toNat).Y) ((at_ s.Points t21.toNat).X) ((at_ s.Points t21.toNat).Y))).X2), I ((joinB (Box.mk x1 y1 x2 y2) (Box.mk ((at_ s.Points t21.toNat).X) ((at_ s.Points t21.toNat).Y) ((at_ s.Points t21.toNat).X) ((at_ s.Points t21.toNat).Y))).Y2)]))] [2, 4, 19, 20, 21] [2, 4] [.ref 2 0, .ref 4 0, slPoint false s.Points, I (s.Points.length : Int), I t21] [some (.box [I 0, I 0, I 0, I 0]), some (.box [I ((joinB (Box.mk x1 y1 x2 y2) (Box.mk ((at_ s.Points t21.toNat).X) ((at_ s.Points t21.toNat).Y) ((at_ s.Points t21.toNat).X) ((at_ s.Points t21.toNat).Y))).X1), I ((joinB (Box.mk x1 y1 x2 y2) (Box.mk ((at_ s.Points t21.toNat).X) ((at_ s.Points t21.toNat).Y) ((at_ s.Points t21.toNat).X) ((at_ s.Points t21.toNat).Y))).Y1), I ((joinB (Box.mk x1 y1 x2 y2) (Box.mk ((at_ s.Points t21.toNat).X) ((at_ s.Points t21.toNat).Y) ((at_ s.Points t21.toNat).X) ((at_ s.Points t21.toNat).Y))).X2), I ((joinB (Box.mk x1 y1 x2 y2) (Box.mk ((at_ s.Points t21.toNat).X) ((at_ s.Points t21.toNat).Y) ((at_ s.Points t21.toNat).X) ((at_ s.Points t21.toNat).Y))).Y2)])] [Con Tryd.prog 68 [.agg [I x1, I y1, I x2, I y2], .agg [I ((at_ s.Points t21.toNat).X), I ((at_ s.Points t21.toNat).Y), I ((at_ s.Points t21.toNat).X), I ((at_ s.Points t21.toNat).Y)]] true (.agg [I ((joinB (Box.mk x1 y1 x2 y2) (Box.mk ((at_ s.Points t21.toNat).X) ((at_ s.Points t21.toNat).Y) ((at_ s.Points t21.toNat).X) ((at_ s.Points t21.toNat).Y))).X1), I ((joinB (Box.mk x1 y1 x2 y2) (Box.mk ((at_ s.Points t21.toNat).X) ((at_ s.Points t21.toNat).Y) ((at_ s.Points t21.toNat).X) ((at_ s.Points t21.toNat).Y))).Y1), I ((joinB (Box.mk x1 y1 x2 y2) (Box.mk ((at_ s.Points t21.toNat).X) ((at_ s.Points t21.toNat).Y) ((at_ s.Points t21.toNat).X) ((at_ s.Points t21.toNat).Y))).X2), I ((joinB (Box.mk x1 y1 x2 y2) (Box.mk ((at_ s.Points t21.toNat).X) ((at_ s.Points t21.toNat).Y) ((at_ s.Points t21.toNat).X) ((at_ s.Points t21.toNat).Y))).Y2)]) ∧ ((.agg [I x1, I y1, I x2, I y2] : AV) = .agg [I x1, I y1, I x2, I y2]) ∧ ((.agg [I ((at_ s.Points t21.toNat).X), I ((at_ s.Points t21.toNat).Y), I ((at_ s.Points t21.toNat).X), I ((at_ s.Points t21.toNat).Y)] : AV) = .agg [I ((at_ s.Points t21.toNat).X), I ((at_ s.Points t21.toNat).Y), I ((at_ s.Points t21.toNat).X), I ((at_ s.Points t21.toNat).Y)]) ∧ True] (by kernel_rfl) hB ⟨⟨(joinBoxes_ok (Box.mk x1 y1 x2 y2) (Box.mk ((at_ s.Points t21.toNat).X) ((at_ s.Points t21.toNat).Y) ((at_ s.Points t21.toNat).X) ((at_ s.Points t21.toNat).Y))), rfl, rfl, trivial⟩, trivial⟩ ?_
    refine ae_block 1 ?_
    refine ae_then ?_
    refine aw_reg [] [2, 4, 19, 20, 21] [2, 4] [.ref 2 0, .ref 4 0, slPoint false s.Points, I (s.Points.length : Int), I (t21 + 1)] [some (.box [I 0, I 0, I 0, I 0]), some (.box [I ((joinB (Box.mk x1 y1 x2 y2) (Box.mk ((at_ s.Points t21.toNat).X) ((at_ s.Points t21.toNat).Y) ((at_ s.Points t21.toNat).X) ((at_ s.Points t21.toNat).Y))).X1), I ((joinB (Box.mk x1 y1 x2 y2) (Box.mk ((at_ s.Points t21.toNat).X) ((at_ s.Points t21.toNat).Y) ((at_ s.Points t21.toNat).X) ((at_ s.Points t21.toNat).Y))).Y1), I ((joinB (Box.mk x1 y1 x2 y2) (Box.mk ((at_ s.Points t21.toNat).X) ((at_ s.Points t21.toNat).Y) ((at_ s.Points t21.toNat).X) ((at_ s.Points t21.toNat).Y))).X2), I ((joinB (Box.mk x1 y1 x2 y2) (Box.mk ((at_ s.Points t21.toNat).X) ((at_ s.Points t21.toNat).Y) ((at_ s.Points t21.toNat).X) ((at_ s.Points t21.toNat).Y))).Y2)])] [inR .i64 (t21 + 1)] (by kernel_rfl) hB ⟨(inR_i64 (by omega) (by omega)), trivial⟩ ?_
    exact ae_again _ (by omega) ⟨(t21 + 1), (joinB (Box.mk x1 y1 x2 y2) (Box.mk ((at_ s.Points t21.toNat).X) ((at_ s.Points t21.toNat).Y) ((at_ s.Points t21.toNat).X) ((at_ s.Points t21.toNat).Y))).X1, (joinB (Box.mk x1 y1 x2 y2) (Box.mk ((at_ s.Points t21.toNat).X) ((at_ s.Points t21.toNat).Y) ((at_ s.Points t21.toNat).X) ((at_ s.Points t21.toNat).Y))).Y1, (joinB (Box.mk x1 y1 x2 y2) (Box.mk ((at_ s.Points t21.toNat).X) ((at_ s.Points t21.toNat).Y) ((at_ s.Points t21.toNat).X) ((at_ s.Points t21.toNat).Y))).X2, (joinB (Box.mk x1 y1 x2 y2) (Box.mk ((at_ s.Points t21.toNat).X) ((at_ s.Points t21.toNat).Y) ((at_ s.Points t21.toNat).X) ((at_ s.Points t21.toNat).Y))).Y2, rfl, (by omega), (by rw [boxS_succ (by omega), ← hb1]; rfl), rfl⟩
  · have hie : t21.toNat = s.Points.length := by omega
    rw [hie] at hb1
    refine aw_reg [(0, .dec false)] [2, 4, 19, 20, 21, 22] [2, 4] [.ref 2 0, .ref 4 0, slPoint false s.Points, I (s.Points.length : Int), I t21, Bv false] [some (.box [I 0, I 0, I 0, I 0]), some (.box [I x1, I y1, I x2, I y2])] [¬ (t21 < (s.Points.length : Int))] (by kernel_rfl) hB ⟨h1, trivial⟩ ?_
    refine ae_then ?_
    refine aw_seq ?_
    refine aw_false rfl ?_
    refine aw_exit ?_
    refine ae_exit_then ?_
    refine ae_exit_then ?_
    refine ae_exit_same ?_
    refine ae_then ?_
    refine aw_seq ?_
    refine aw_reg [] [2] [2] [.ref 2 0] [some (.box [I x1, I y1, I x2, I y2])] [] (by kernel_rfl) hB trivial ?_
    refine ae_then ?_
    refine aw_ret ?_
    refine ae_ret hB (.agg [I x1, I y1, I x2, I y2]) (by kernel_rfl) (.inl (by rw [← hb1])) rfl (fun _ => (by simp [tagged, taggedL]))

end Go.Proofs.YtmchblafmhpegaaDoor.Ax
