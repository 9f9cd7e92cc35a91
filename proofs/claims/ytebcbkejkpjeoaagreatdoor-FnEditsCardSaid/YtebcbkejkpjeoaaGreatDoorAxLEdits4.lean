/- Contracts that the statement FnEdits reaches, part 4. No conditions. -/
import Derived.Test.YtebcbkejkpjeoaaGreatDoorAxLEdits3
import Derived.LaidMore
import Derived.Lay
import Derived.OpenShut
import Derived.SevenTiedAt
import Derived.Shelf.Strings.SlTrimAscii
import Derived.Stop.Joined
namespace Go.Proofs.YtebcbkejkpjeoaaGreatDoor.Ax
open Go.RowKit Go.ChangeShapes Go.WideShapes
set_option linter.unusedVariables false
set_option linter.unusedSimpArgs false


-- impl.insertPlace
theorem insertPlace_ok (l : CellRow) (s : Stroke) (hr0 : okRow l = true) (ok : okStroke' s = true) : Con Tryz.prog 55 [agCellRow l, .agg [slPoint false s.Points]] true (I (placeS l (at_ s.Points (tipS s.Points s.Points.length)).X l.Text.size)) := by
  have hr := okRow_iff.1 hr0
  have hln := okS_len ok
  refine fn_ok (fn := Tryz.f55) (nt := 58) Tryz.func55 rfl rfl rfl rfl (by simp [taggedL, tagged, tagPoint]) fun B hB => ?_
  refine aw_lens (x := .agg [slPoint false s.Points]) 1 rfl (fun len_s => ?_)
  simp [LenOK, LenL, cPoint, fPoint, slPoint] at len_s
  refine aw_seq ?_
  refine aw_reg [(0, .new 2), (1, .new 3)] [2, 3] [2, 3] [.ref 2 0, .ref 3 0] [some (bxCellRow l), some (.box [slPoint false s.Points])] [] (by kernel_rfl) hB trivial ?_
  refine ae_then ?_
  refine aw_seq ?_
  refine aw_reg [(1, .call [(true, .agg [slPoint false s.Points])] true (agPoint (at_ s.Points 0))), (2, .new 5)] [2, 3, 5] [2, 3, 5] [.ref 2 0, .ref 3 0, .ref 5 0] [some (bxCellRow l), some (.box [slPoint false s.Points]), some (bxPoint (at_ s.Points 0))] [Con Tryz.prog 65 [.agg [slPoint false s.Points]] true (agPoint (at_ s.Points 0)) ∧ ((.agg [slPoint false s.Points] : AV) = .agg [slPoint false s.Points]) ∧ True] (by kernel_rfl) hB ⟨⟨(firstOf_ok s ok), rfl, trivial⟩, trivial⟩ ?_
  refine ae_then ?_
  refine aw_seq ?_
  refine aw_seq ?_
  refine aw_reg [] [2, 5, 13, 14, 15] [2, 5] [.ref 2 0, .ref 5 0, slPoint false s.Points, I (s.Points.length : Int), I 0] [some (bxCellRow l), some (bxPoint (at_ s.Points 0))] [] (by kernel_rfl) hB trivial ?_
  refine ae_then ?_
  refine aw_block ?_
  refine aw_weak hB [] (T := [(2, .ref 2 0), (5, .ref 5 0), (13, slPoint false s.Points), (14, I (s.Points.length : Int)), (15, I 0)]) (O := [(2, bxCellRow l), (5, .box [I ((at_ s.Points 0).X), I ((at_ s.Points 0).Y), I ((at_ s.Points 0).T)])]) rfl (⟨.inl rfl, .inl rfl, .inl rfl, .inl rfl, .inl rfl, trivial⟩) (⟨.inl rfl, .inr ⟨rfl, ⟨rfl, ⟨rfl, rfl⟩⟩⟩, trivial⟩) ?_
  refine aw_loop (fun gn gσ => ∃ (t15 : Int) (px : Int) (py : Int) (pt : Int), gn = ((s.Points.length : Int) - t15).toNat ∧ (0 ≤ t15 ∧ t15 ≤ (s.Points.length : Int)) ∧ (Point.mk px py pt = at_ s.Points (tipS s.Points t15.toNat)) ∧ gσ = mkS [(2, .ref 2 0), (5, .ref 5 0), (13, slPoint false s.Points), (14, I (s.Points.length : Int)), (15, I t15)] [(2, bxCellRow l), (5, .box [I px, I py, I pt])]) (((s.Points.length : Int) - 0).toNat) ⟨0, (at_ s.Points 0).X, (at_ s.Points 0).Y, (at_ s.Points 0).T, rfl, (by omega), (by rfl), rfl⟩ (fun gn gσ hI => ?_)
  obtain ⟨t15, px, py, pt, rfl, hi0, hb1, rfl⟩ := hI
  refine aw_seq ?_
  by_cases h1 : t15 < (s.Points.length : Int)
  ·have hi : t15.toNat < s.Points.length := by omega
   refine aw_reg [(0, .dec true)] [2, 5, 13, 14, 15, 16] [2, 5] [.ref 2 0, .ref 5 0, slPoint false s.Points, I (s.Points.length : Int), I t15, Bv true] [some (bxCellRow l), some (.box [I px, I py, I pt])] [t15 < (s.Points.length : Int)] (by kernel_rfl) hB ⟨h1, trivial⟩ ?_
   refine ae_then ?_
   refine aw_seq ?_
   refine aw_true rfl ?_
   refine aw_skip ?_
   refine ae_then ?_
   refine aw_seq ?_
   refine aw_block ?_
   refine aw_seq ?_
   refine aw_reg [(2, .new 7)] [2, 5, 7, 13, 14, 15] [2, 5, 7] [.ref 2 0, .ref 5 0, .ref 7 0, slPoint false s.Points, I (s.Points.length : Int), I t15] [some (bxCellRow l), some (.box [I px, I py, I pt]), some (bxPoint (at_ s.Points t15.toNat))] [(0 : Int) ≤ t15 ∧ t15 < (s.Points.length : Int)] (by kernel_rfl) hB ⟨⟨(by omega), (by omega)⟩, trivial⟩ ?_
   refine ae_then ?_
   refine aw_seq ?_
   by_cases h2 : ((at_ s.Points t15.toNat).Y) < py
   ·refine aw_reg [(4, .dec true)] [2, 5, 7, 13, 14, 15, 23] [2, 5, 7] [.ref 2 0, .ref 5 0, .ref 7 0, slPoint false s.Points, I (s.Points.length : Int), I t15, Bv true] [some (bxCellRow l), some (.box [I px, I py, I pt]), some (bxPoint (at_ s.Points t15.toNat))] [((at_ s.Points t15.toNat).Y) < py] (by kernel_rfl) hB ⟨h2, trivial⟩ ?_
    refine ae_then ?_
    refine aw_true rfl ?_
    refine aw_reg [] [2, 5, 13, 14, 15] [2, 5] [.ref 2 0, .ref 5 0, slPoint false s.Points, I (s.Points.length : Int), I t15] [some (bxCellRow l), some (bxPoint (at_ s.Points t15.toNat))] [] (by kernel_rfl) hB trivial ?_
    refine ae_block 1 ?_
    refine ae_then ?_
    refine aw_reg [] [2, 5, 13, 14, 15] [2, 5] [.ref 2 0, .ref 5 0, slPoint false s.Points, I (s.Points.length : Int), I (t15 + 1)] [some (bxCellRow l), some (bxPoint (at_ s.Points t15.toNat))] [inR .i64 (t15 + 1)] (by kernel_rfl) hB ⟨(inR_i64 (by omega) (by omega)), trivial⟩ ?_
    refine ae_weak hB [] (T := [(2, .ref 2 0), (5, .ref 5 0), (13, slPoint false s.Points), (14, I (s.Points.length : Int)), (15, I (t15 + 1))]) (O := [(2, bxCellRow l), (5, .box [I ((at_ s.Points t15.toNat).X), I ((at_ s.Points t15.toNat).Y), I ((at_ s.Points t15.toNat).T)])]) rfl (⟨.inl rfl, .inl rfl, .inl rfl, .inl rfl, .inl rfl, trivial⟩) (⟨.inl rfl, .inr ⟨rfl, ⟨rfl, ⟨rfl, rfl⟩⟩⟩, trivial⟩) (ae_again _ (by omega) ⟨(t15 + 1), (at_ s.Points t15.toNat).X, (at_ s.Points t15.toNat).Y, (at_ s.Points t15.toNat).T, rfl, (by omega), (by rw [tip_at hi0.1, ← hb1]; show _ = if (at_ s.Points t15.toNat).Y < py then _ else _; first | (rw [if_pos (by assumption)]; done) | (rw [if_neg (by assumption)]; done)), rfl⟩)
   ·refine aw_reg [(4, .dec false)] [2, 5, 7, 13, 14, 15, 23] [2, 5, 7] [.ref 2 0, .ref 5 0, .ref 7 0, slPoint false s.Points, I (s.Points.length : Int), I t15, Bv false] [some (bxCellRow l), some (.box [I px, I py, I pt]), some (bxPoint (at_ s.Points t15.toNat))] [¬ (((at_ s.Points t15.toNat).Y) < py)] (by kernel_rfl) hB ⟨h2, trivial⟩ ?_
    refine ae_then ?_
    refine aw_false rfl ?_
    refine aw_skip ?_
    refine ae_block 1 ?_
    refine ae_then ?_
    refine aw_reg [] [2, 5, 13, 14, 15] [2, 5] [.ref 2 0, .ref 5 0, slPoint false s.Points, I (s.Points.length : Int), I (t15 + 1)] [some (bxCellRow l), some (.box [I px, I py, I pt])] [inR .i64 (t15 + 1)] (by kernel_rfl) hB ⟨(inR_i64 (by omega) (by omega)), trivial⟩ ?_
    exact ae_again _ (by omega) ⟨(t15 + 1), px, py, pt, rfl, (by omega), (by rw [tip_at hi0.1, ← hb1]; show _ = if (at_ s.Points t15.toNat).Y < py then _ else _; first | (rw [if_pos (by assumption)]; done) | (rw [if_neg (by assumption)]; done)), rfl⟩
  ·have hie : t15.toNat = s.Points.length := by omega
   rw [hie] at hb1
   have hpx : px = (at_ s.Points (tipS s.Points s.Points.length)).X := congrArg Point.X hb1
   have hpd := okP_iff.1 (okS_at ok (j := tipS s.Points s.Points.length) (tip_lt (by omega)))
   rw [← hpx] at hpd
   refine aw_reg [(0, .dec false)] [2, 5, 13, 14, 15, 16] [2, 5] [.ref 2 0, .ref 5 0, slPoint false s.Points, I (s.Points.length : Int), I t15, Bv false] [some (bxCellRow l), some (.box [I px, I py, I pt])] [¬ (t15 < (s.Points.length : Int))] (by kernel_rfl) hB ⟨h1, trivial⟩ ?_
   refine ae_then ?_
   refine aw_seq ?_
   refine aw_false rfl ?_
   refine aw_exit ?_
   refine ae_exit_then ?_
   refine ae_exit_then ?_
   refine ae_exit_same ?_
   refine ae_then ?_
   refine aw_seq ?_
   refine aw_reg [] [2, 5, 8] [2, 5] [.ref 2 0, .ref 5 0, I 0] [some (bxCellRow l), some (.box [I px, I py, I pt])] [] (by kernel_rfl) hB trivial ?_
   refine ae_then ?_
   refine aw_seq ?_
   refine aw_seq ?_
   refine aw_reg [] [2, 5, 8, 9] [2, 5] [.ref 2 0, .ref 5 0, I 0, I 1] [some (bxCellRow l), some (.box [I px, I py, I pt])] [] (by kernel_rfl) hB trivial ?_
   refine ae_then ?_
   refine aw_block ?_
   refine aw_loop (fun gn gσ => ∃ (best : Int) (k : Int), gn = ((l.Text.size : Int) + 1 - k).toNat ∧ (1 ≤ k ∧ k ≤ (l.Text.size : Int) + 1) ∧ (best = placeS l px (k - 1).toNat) ∧ (0 ≤ best ∧ best ≤ k - 1) ∧ gσ = mkS [(2, .ref 2 0), (5, .ref 5 0), (8, I best), (9, I k)] [(2, bxCellRow l), (5, .box [I px, I py, I pt])]) (((l.Text.size : Int) + 1 - 1).toNat) ⟨0, 1, rfl, (by omega), (by rfl), (by omega), rfl⟩ (fun gn gσ hI => ?_)
   obtain ⟨best, k, rfl, hq0, hp1, hp2, rfl⟩ := hI
   refine aw_seq ?_
   refine aw_seq ?_
   by_cases h3 : k ≤ (l.Text.size : Int)
   ·have hkb := mul60 (a := k) (c := l.Cell) (by omega) (by omega)
    have hbb := mul60 (a := best) (c := l.Cell) (by omega) (by omega)
    refine aw_reg [(4, .dec true)] [2, 5, 8, 9, 30] [2, 5] [.ref 2 0, .ref 5 0, I best, I k, Bv true] [some (bxCellRow l), some (.box [I px, I py, I pt])] [k ≤ (l.Text.size : Int)] (by kernel_rfl) hB ⟨h3, trivial⟩ ?_
    refine ae_then ?_
    refine aw_true rfl ?_
    refine aw_skip ?_
    refine ae_then ?_
    refine aw_seq ?_
    refine aw_block ?_
    refine aw_seq ?_
    by_cases h4 : (((l.X + (k * l.Cell)) - px).natAbs : Int) < (((l.X + (best * l.Cell)) - px).natAbs : Int)
    ·refine aw_reg [(10, .call [(true, I ((l.X + (k * l.Cell)) - px))] true (I (((l.X + (k * l.Cell)) - px).natAbs : Int))), (21, .call [(true, I ((l.X + (best * l.Cell)) - px))] true (I (((l.X + (best * l.Cell)) - px).natAbs : Int))), (22, .dec true)] [2, 5, 8, 9, 55] [2, 5] [.ref 2 0, .ref 5 0, I best, I k, Bv true] [some (bxCellRow l), some (.box [I px, I py, I pt])] [inR .i64 (k * l.Cell), inR .i64 (l.X + (k * l.Cell)), inR .i64 ((l.X + (k * l.Cell)) - px), Con Tryz.prog 67 [I ((l.X + (k * l.Cell)) - px)] true (I (((l.X + (k * l.Cell)) - px).natAbs : Int)) ∧ ((I ((l.X + (k * l.Cell)) - px) : AV) = I ((l.X + (k * l.Cell)) - px)) ∧ True, inR .i64 (best * l.Cell), inR .i64 (l.X + (best * l.Cell)), inR .i64 ((l.X + (best * l.Cell)) - px), Con Tryz.prog 67 [I ((l.X + (best * l.Cell)) - px)] true (I (((l.X + (best * l.Cell)) - px).natAbs : Int)) ∧ ((I ((l.X + (best * l.Cell)) - px) : AV) = I ((l.X + (best * l.Cell)) - px)) ∧ True, (((l.X + (k * l.Cell)) - px).natAbs : Int) < (((l.X + (best * l.Cell)) - px).natAbs : Int)] (by kernel_rfl) hB ⟨(inR_i64 (by omega) (by omega)), (inR_i64 (by omega) (by omega)), (inR_i64 (by omega) (by omega)), ⟨(abs_ok ((l.X + (k * l.Cell)) - px) (by omega)), rfl, trivial⟩, (inR_i64 (by omega) (by omega)), (inR_i64 (by omega) (by omega)), (inR_i64 (by omega) (by omega)), ⟨(abs_ok ((l.X + (best * l.Cell)) - px) (by omega)), rfl, trivial⟩, h4, trivial⟩ ?_
     refine ae_then ?_
     refine aw_true rfl ?_
     refine aw_reg [] [2, 5, 8, 9] [2, 5] [.ref 2 0, .ref 5 0, I k, I k] [some (bxCellRow l), some (.box [I px, I py, I pt])] [] (by kernel_rfl) hB trivial ?_
     refine ae_block 3 ?_
     refine ae_then ?_
     refine aw_reg [] [2, 5, 8, 9] [2, 5] [.ref 2 0, .ref 5 0, I k, I (k + 1)] [some (bxCellRow l), some (.box [I px, I py, I pt])] [inR .i64 (k + 1)] (by kernel_rfl) hB ⟨(inR_i64 (by omega) (by omega)), trivial⟩ ?_
     exact ae_again _ (by omega) ⟨k, (k + 1), rfl, (by omega), (by rw [placeS_succ hq0.1, ← hp1]; first | rfl | (rw [if_pos (by omega)]; done) | (rw [if_neg (by omega)]; done)), (by omega), rfl⟩
    ·refine aw_reg [(10, .call [(true, I ((l.X + (k * l.Cell)) - px))] true (I (((l.X + (k * l.Cell)) - px).natAbs : Int))), (21, .call [(true, I ((l.X + (best * l.Cell)) - px))] true (I (((l.X + (best * l.Cell)) - px).natAbs : Int))), (22, .dec false)] [2, 5, 8, 9, 55] [2, 5] [.ref 2 0, .ref 5 0, I best, I k, Bv false] [some (bxCellRow l), some (.box [I px, I py, I pt])] [inR .i64 (k * l.Cell), inR .i64 (l.X + (k * l.Cell)), inR .i64 ((l.X + (k * l.Cell)) - px), Con Tryz.prog 67 [I ((l.X + (k * l.Cell)) - px)] true (I (((l.X + (k * l.Cell)) - px).natAbs : Int)) ∧ ((I ((l.X + (k * l.Cell)) - px) : AV) = I ((l.X + (k * l.Cell)) - px)) ∧ True, inR .i64 (best * l.Cell), inR .i64 (l.X + (best * l.Cell)), inR .i64 ((l.X + (best * l.Cell)) - px), Con Tryz.prog 67 [I ((l.X + (best * l.Cell)) - px)] true (I (((l.X + (best * l.Cell)) - px).natAbs : Int)) ∧ ((I ((l.X + (best * l.Cell)) - px) : AV) = I ((l.X + (best * l.Cell)) - px)) ∧ True, ¬ ((((l.X + (k * l.Cell)) - px).natAbs : Int) < (((l.X + (best * l.Cell)) - px).natAbs : Int))] (by kernel_rfl) hB ⟨(inR_i64 (by omega) (by omega)), (inR_i64 (by omega) (by omega)), (inR_i64 (by omega) (by omega)), ⟨(abs_ok ((l.X + (k * l.Cell)) - px) (by omega)), rfl, trivial⟩, (inR_i64 (by omega) (by omega)), (inR_i64 (by omega) (by omega)), (inR_i64 (by omega) (by omega)), ⟨(abs_ok ((l.X + (best * l.Cell)) - px) (by omega)), rfl, trivial⟩, h4, trivial⟩ ?_
     refine ae_then ?_
     refine aw_false rfl ?_
     refine aw_skip ?_
     refine ae_block 3 ?_
     refine ae_then ?_
     refine aw_reg [] [2, 5, 8, 9] [2, 5] [.ref 2 0, .ref 5 0, I best, I (k + 1)] [some (bxCellRow l), some (.box [I px, I py, I pt])] [inR .i64 (k + 1)] (by kernel_rfl) hB ⟨(inR_i64 (by omega) (by omega)), trivial⟩ ?_
     exact ae_again _ (by omega) ⟨best, (k + 1), rfl, (by omega), (by rw [placeS_succ hq0.1, ← hp1]; first | rfl | (rw [if_pos (by omega)]; done) | (rw [if_neg (by omega)]; done)), (by omega), rfl⟩
   ·have hie : (k - 1).toNat = l.Text.size := by omega
    rw [hie] at hp1
    refine aw_reg [(4, .dec false)] [2, 5, 8, 9, 30] [2, 5] [.ref 2 0, .ref 5 0, I best, I k, Bv false] [some (bxCellRow l), some (.box [I px, I py, I pt])] [¬ (k ≤ (l.Text.size : Int))] (by kernel_rfl) hB ⟨h3, trivial⟩ ?_
    refine ae_then ?_
    refine aw_false rfl ?_
    refine aw_exit ?_
    refine ae_exit_then ?_
    refine ae_exit_then ?_
    refine ae_exit_same ?_
    refine ae_then ?_
    refine aw_seq ?_
    refine aw_reg [] [4] [] [I best] [] [] (by kernel_rfl) hB trivial ?_
    refine ae_then ?_
    refine aw_ret ?_
    refine ae_ret hB (I best) (by kernel_rfl) (.inl (by rw [hp1, hpx])) rfl (fun _ => trivial)


-- impl.lettersUnder
theorem lettersUnder_ok (l : CellRow) (b : Box) (hr0 : okRow l = true) (hb : (0 ≤ b.X1 ∧ b.X1 ≤ 4095) ∧ 0 ≤ b.X2 ∧ b.X2 ≤ 4095) : Con Tryz.prog 56 [agCellRow l, agBox b] true (.tup [I ((spanS l b l.Text.size).1), I ((spanS l b l.Text.size).2)]) := by
  have hr := okRow_iff.1 hr0
  refine fn_ok (fn := Tryz.f56) (nt := 43) Tryz.func56 rfl rfl rfl rfl (by simp [taggedL, tagged]) fun B hB => ?_
  refine aw_seq ?_
  refine aw_reg [(0, .new 2), (1, .new 3)] [2, 3] [2, 3] [.ref 2 0, .ref 3 0] [some (bxCellRow l), some (bxBox b)] [] (by kernel_rfl) hB trivial ?_
  refine ae_then ?_
  refine aw_seq ?_
  refine aw_reg [] [2, 3, 6, 7] [2, 3] [.ref 2 0, .ref 3 0, I 0, I 0] [some (bxCellRow l), some (bxBox b)] [] (by kernel_rfl) hB trivial ?_
  refine ae_then ?_
  refine aw_seq ?_
  refine aw_seq ?_
  refine aw_reg [] [2, 3, 6, 7, 8] [2, 3] [.ref 2 0, .ref 3 0, I 0, I 0, I 0] [some (bxCellRow l), some (bxBox b)] [] (by kernel_rfl) hB trivial ?_
  refine ae_then ?_
  refine aw_block ?_
  refine aw_loop (fun gn gσ => ∃ (fr_ : Int) (to_ : Int) (k : Int), gn = ((l.Text.size : Int) - k).toNat ∧ (0 ≤ k ∧ k ≤ (l.Text.size : Int)) ∧ (fr_ = (spanS l b k.toNat).1) ∧ (to_ = (spanS l b k.toNat).2) ∧ (0 ≤ to_ ∧ to_ ≤ k) ∧ gσ = mkS [(2, .ref 2 0), (3, .ref 3 0), (6, I fr_), (7, I to_), (8, I k)] [(2, bxCellRow l), (3, bxBox b)]) (((l.Text.size : Int) - 0).toNat) ⟨0, 0, 0, rfl, (by omega), (by rfl), (by rfl), (by omega), rfl⟩ (fun gn gσ hI => ?_)
  obtain ⟨fr_, to_, k, rfl, hi0, hs1, hs2, hs3, rfl⟩ := hI
  refine aw_seq ?_
  refine aw_seq ?_
  by_cases h1 : k < (l.Text.size : Int)
  ·have hkb := mul60 (a := k) (c := l.Cell) (by omega) (by omega)
   have hme := mid_eq k l.Cell
   have he : (2 * (l.X + k * l.Cell)) + l.Cell = 2 * l.X + (2 * k + 1) * l.Cell := by omega
   refine aw_reg [(4, .dec true)] [2, 3, 6, 7, 8, 14] [2, 3] [.ref 2 0, .ref 3 0, I fr_, I to_, I k, Bv true] [some (bxCellRow l), some (bxBox b)] [k < (l.Text.size : Int)] (by kernel_rfl) hB ⟨h1, trivial⟩ ?_
   refine ae_then ?_
   refine aw_true rfl ?_
   refine aw_skip ?_
   refine ae_then ?_
   refine aw_seq ?_
   refine aw_block ?_
   refine aw_seq ?_
   refine aw_reg [] [2, 3, 6, 7, 8, 9] [2, 3] [.ref 2 0, .ref 3 0, I fr_, I to_, I k, I ((2 * (l.X + (k * l.Cell))) + l.Cell)] [some (bxCellRow l), some (bxBox b)] [inR .i64 (k * l.Cell), inR .i64 (l.X + (k * l.Cell)), inR .i64 (2 * (l.X + (k * l.Cell))), inR .i64 ((2 * (l.X + (k * l.Cell))) + l.Cell)] (by kernel_rfl) hB ⟨(inR_i64 (by omega) (by omega)), (inR_i64 (by omega) (by omega)), (inR_i64 (by omega) (by omega)), (inR_i64 (by omega) (by omega)), trivial⟩ ?_
   refine ae_then ?_
   refine aw_seq ?_
   rcases Bool.eq_false_or_eq_true (inB ((2 * (l.X + (k * l.Cell))) + l.Cell) (2 * b.X1) (2 * b.X2)) with h2 | h2
   ·have hqh2 : inB (2 * l.X + (2 * k + 1) * l.Cell) (2 * b.X1) (2 * b.X2) = true := by rw [← he]; exact h2
    refine aw_reg [(7, .call [(true, I ((2 * (l.X + (k * l.Cell))) + l.Cell)), (true, I (2 * b.X1)), (true, I (2 * b.X2))] true (Bv true))] [2, 3, 6, 7, 8, 35] [2, 3] [.ref 2 0, .ref 3 0, I fr_, I to_, I k, Bv true] [some (bxCellRow l), some (bxBox b)] [inR .i64 (2 * b.X1), inR .i64 (2 * b.X2), Con Tryz.prog 44 [I ((2 * (l.X + (k * l.Cell))) + l.Cell), I (2 * b.X1), I (2 * b.X2)] true (Bv true) ∧ ((I ((2 * (l.X + (k * l.Cell))) + l.Cell) : AV) = I ((2 * (l.X + (k * l.Cell))) + l.Cell)) ∧ ((I (2 * b.X1) : AV) = I (2 * b.X1)) ∧ ((I (2 * b.X2) : AV) = I (2 * b.X2)) ∧ True] (by kernel_rfl) hB ⟨(inR_i64 (by omega) (by omega)), (inR_i64 (by omega) (by omega)), ⟨(con_bool h2 (within_ok ((2 * (l.X + (k * l.Cell))) + l.Cell) (2 * b.X1) (2 * b.X2))), rfl, rfl, rfl, trivial⟩, trivial⟩ ?_
    refine ae_then ?_
    refine aw_true rfl ?_
    refine aw_seq ?_
    refine aw_seq ?_
    by_cases h3 : to_ = 0
    ·refine aw_reg [(1, .dec true)] [2, 3, 6, 8, 37] [2, 3] [.ref 2 0, .ref 3 0, I fr_, I k, Bv true] [some (bxCellRow l), some (bxBox b)] [to_ = 0] (by kernel_rfl) hB ⟨h3, trivial⟩ ?_
     refine ae_then ?_
     refine aw_true rfl ?_
     refine aw_reg [] [2, 3, 6, 8] [2, 3] [.ref 2 0, .ref 3 0, I k, I k] [some (bxCellRow l), some (bxBox b)] [] (by kernel_rfl) hB trivial ?_
     refine ae_then ?_
     refine aw_reg [] [2, 3, 6, 7, 8] [2, 3] [.ref 2 0, .ref 3 0, I k, I (k + 1), I k] [some (bxCellRow l), some (bxBox b)] [inR .i64 (k + 1)] (by kernel_rfl) hB ⟨(inR_i64 (by omega) (by omega)), trivial⟩ ?_
     refine ae_block 1 ?_
     refine ae_then ?_
     refine aw_reg [] [2, 3, 6, 7, 8] [2, 3] [.ref 2 0, .ref 3 0, I k, I (k + 1), I (k + 1)] [some (bxCellRow l), some (bxBox b)] [inR .i64 (k + 1)] (by kernel_rfl) hB ⟨(inR_i64 (by omega) (by omega)), trivial⟩ ?_
     exact ae_again _ (by omega) ⟨k, (k + 1), (k + 1), rfl, (by omega), (by first | (rw [spanS_yes hi0.1 (by assumption), ← hs1, ← hs2]; first | (simp only [if_pos (by assumption : to_ = 0)]; done) | (simp only [if_neg (by assumption : ¬ to_ = 0)]; done)) | (rw [spanS_no hi0.1 (by assumption), ← hs1])), (by first | (rw [spanS_yes hi0.1 (by assumption)]; done) | (rw [spanS_no hi0.1 (by assumption), ← hs2])), (by omega), rfl⟩
    ·refine aw_reg [(1, .dec false)] [2, 3, 6, 8, 37] [2, 3] [.ref 2 0, .ref 3 0, I fr_, I k, Bv false] [some (bxCellRow l), some (bxBox b)] [¬ (to_ = 0)] (by kernel_rfl) hB ⟨h3, trivial⟩ ?_
     refine ae_then ?_
     refine aw_false rfl ?_
     refine aw_skip ?_
     refine ae_then ?_
     refine aw_reg [] [2, 3, 6, 7, 8] [2, 3] [.ref 2 0, .ref 3 0, I fr_, I (k + 1), I k] [some (bxCellRow l), some (bxBox b)] [inR .i64 (k + 1)] (by kernel_rfl) hB ⟨(inR_i64 (by omega) (by omega)), trivial⟩ ?_
     refine ae_block 1 ?_
     refine ae_then ?_
     refine aw_reg [] [2, 3, 6, 7, 8] [2, 3] [.ref 2 0, .ref 3 0, I fr_, I (k + 1), I (k + 1)] [some (bxCellRow l), some (bxBox b)] [inR .i64 (k + 1)] (by kernel_rfl) hB ⟨(inR_i64 (by omega) (by omega)), trivial⟩ ?_
     exact ae_again _ (by omega) ⟨fr_, (k + 1), (k + 1), rfl, (by omega), (by first | (rw [spanS_yes hi0.1 (by assumption), ← hs1, ← hs2]; first | (simp only [if_pos (by assumption : to_ = 0)]; done) | (simp only [if_neg (by assumption : ¬ to_ = 0)]; done)) | (rw [spanS_no hi0.1 (by assumption), ← hs1])), (by first | (rw [spanS_yes hi0.1 (by assumption)]; done) | (rw [spanS_no hi0.1 (by assumption), ← hs2])), (by omega), rfl⟩
   ·have hqh2 : inB (2 * l.X + (2 * k + 1) * l.Cell) (2 * b.X1) (2 * b.X2) = false := by rw [← he]; exact h2
    refine aw_reg [(7, .call [(true, I ((2 * (l.X + (k * l.Cell))) + l.Cell)), (true, I (2 * b.X1)), (true, I (2 * b.X2))] true (Bv false))] [2, 3, 6, 7, 8, 35] [2, 3] [.ref 2 0, .ref 3 0, I fr_, I to_, I k, Bv false] [some (bxCellRow l), some (bxBox b)] [inR .i64 (2 * b.X1), inR .i64 (2 * b.X2), Con Tryz.prog 44 [I ((2 * (l.X + (k * l.Cell))) + l.Cell), I (2 * b.X1), I (2 * b.X2)] true (Bv false) ∧ ((I ((2 * (l.X + (k * l.Cell))) + l.Cell) : AV) = I ((2 * (l.X + (k * l.Cell))) + l.Cell)) ∧ ((I (2 * b.X1) : AV) = I (2 * b.X1)) ∧ ((I (2 * b.X2) : AV) = I (2 * b.X2)) ∧ True] (by kernel_rfl) hB ⟨(inR_i64 (by omega) (by omega)), (inR_i64 (by omega) (by omega)), ⟨(con_bool h2 (within_ok ((2 * (l.X + (k * l.Cell))) + l.Cell) (2 * b.X1) (2 * b.X2))), rfl, rfl, rfl, trivial⟩, trivial⟩ ?_
    refine ae_then ?_
    refine aw_false rfl ?_
    refine aw_skip ?_
    refine ae_block 1 ?_
    refine ae_then ?_
    refine aw_reg [] [2, 3, 6, 7, 8] [2, 3] [.ref 2 0, .ref 3 0, I fr_, I to_, I (k + 1)] [some (bxCellRow l), some (bxBox b)] [inR .i64 (k + 1)] (by kernel_rfl) hB ⟨(inR_i64 (by omega) (by omega)), trivial⟩ ?_
    exact ae_again _ (by omega) ⟨fr_, to_, (k + 1), rfl, (by omega), (by first | (rw [spanS_yes hi0.1 (by assumption), ← hs1, ← hs2]; first | (simp only [if_pos (by assumption : to_ = 0)]; done) | (simp only [if_neg (by assumption : ¬ to_ = 0)]; done)) | (rw [spanS_no hi0.1 (by assumption), ← hs1])), (by first | (rw [spanS_yes hi0.1 (by assumption)]; done) | (rw [spanS_no hi0.1 (by assumption), ← hs2])), (by omega), rfl⟩
  ·have hie : k.toNat = l.Text.size := by omega
   rw [hie] at hs1 hs2
   refine aw_reg [(4, .dec false)] [2, 3, 6, 7, 8, 14] [2, 3] [.ref 2 0, .ref 3 0, I fr_, I to_, I k, Bv false] [some (bxCellRow l), some (bxBox b)] [¬ (k < (l.Text.size : Int))] (by kernel_rfl) hB ⟨h1, trivial⟩ ?_
   refine ae_then ?_
   refine aw_false rfl ?_
   refine aw_exit ?_
   refine ae_exit_then ?_
   refine ae_exit_then ?_
   refine ae_exit_same ?_
   refine ae_then ?_
   refine aw_seq ?_
   refine aw_reg [] [4, 5] [] [I fr_, I to_] [] [] (by kernel_rfl) hB trivial ?_
   refine ae_then ?_
   refine aw_ret ?_
   refine ae_ret hB (.tup [I fr_, I to_]) (by kernel_rfl) (.inl (by rw [hs1, hs2])) rfl (fun _ => (by simp [tagged, taggedL]))


-- impl.EditOf
theorem implEditOf_ok (l : CellRow) (s : Stroke) (okl : l.Text.size ≤ 9223372036854775807) : Con Tryz.prog 28 [agCellRow l, .agg [slPoint false s.Points]] true (.tup [agEdit ((editOfR l s).1), I ((editOfR l s).2)]) := by
  refine fn_ok (fn := Tryz.f28) (nt := 70) Tryz.func28 rfl rfl rfl rfl (by simp [taggedL, tagged, tagPoint]) fun B hB => ?_
  refine aw_lens (x := .agg [slPoint false s.Points]) 1 rfl (fun len_s => ?_)
  simp [LenOK, LenL, cPoint, fPoint, slPoint] at len_s
  refine aw_seq ?_
  refine aw_reg [(0, .new 2), (1, .new 3), (2, .new 4)] [2, 3, 4] [2, 3, 4] [.ref 2 0, .ref 3 0, .ref 4 0] [some (bxCellRow l), some (.box [slPoint false s.Points]), some (.box [I 0, I 0, I 0])] [] (by kernel_rfl) hB trivial ?_
  refine ae_then ?_
  refine aw_seq ?_
  refine aw_seq ?_
  rcases Bool.eq_false_or_eq_true (okRow l) with h1 | h1
  ·have hr0 := h1
   have hr := okRow_iff.1 hr0
   rcases Bool.eq_false_or_eq_true (okStroke' s) with h2 | h2
   ·have ok := h2
    have hln := okS_len ok
    have hbx := boxS_all ok
    unfold okBox at hbx
    have hpd := okP_iff.1 (okS_at ok (j := tipS s.Points s.Points.length) (tip_lt (by omega)))
    have htl := tip_lt (xs := s.Points) (by omega)
    have htn : ((tipS s.Points s.Points.length : Nat) : Int).toNat = tipS s.Points s.Points.length := Int.toNat_natCast _
    have hpd2 := hpd
    rw [← htn] at hpd2
    have hsp := spanS_bd l (boxS s.Points s.Points.length) l.Text.size
    refine aw_reg [(1, .call [(true, agCellRow l)] true (Bv true)), (5, .call [(true, .agg [slPoint false s.Points])] true (Bv true))] [2, 3, 4, 18] [2, 3, 4] [.ref 2 0, .ref 3 0, .ref 4 0, Bv false] [some (bxCellRow l), some (.box [slPoint false s.Points]), some (.box [I 0, I 0, I 0])] [Con Tryz.prog 17 [agCellRow l] true (Bv true) ∧ ((agCellRow l : AV) = agCellRow l) ∧ True, Con Tryz.prog 33 [.agg [slPoint false s.Points]] true (Bv true) ∧ ((.agg [slPoint false s.Points] : AV) = .agg [slPoint false s.Points]) ∧ True] (by kernel_rfl) hB ⟨⟨(con_bool h1 (ValidCellRow_ok l okl)), rfl, trivial⟩, ⟨(con_bool h2 (ValidStroke_ok s)), rfl, trivial⟩, trivial⟩ ?_
    refine ae_then ?_
    refine aw_false rfl ?_
    refine aw_skip ?_
    refine ae_then ?_
    refine aw_seq ?_
    refine aw_reg [] [2, 3, 4] [2, 3, 4] [.ref 2 0, .ref 3 0, .ref 4 0] [some (bxCellRow l), some (.box [slPoint false s.Points]), some (.box [I 0, I 0, I 0])] [] (by kernel_rfl) hB trivial ?_
    refine ae_then ?_
    refine aw_seq ?_
    refine aw_seq ?_
    refine aw_reg [(1, .call [(true, .agg [slPoint false s.Points])] true (I (gestI s)))] [2, 3, 4, 21] [2, 3, 4] [.ref 2 0, .ref 3 0, .ref 4 0, I (gestI s)] [some (bxCellRow l), some (.box [slPoint false s.Points]), some (.box [I 0, I 0, I 0])] [Con Tryz.prog 34 [.agg [slPoint false s.Points]] true (I (gestI s)) ∧ ((.agg [slPoint false s.Points] : AV) = .agg [slPoint false s.Points]) ∧ True] (by kernel_rfl) hB ⟨⟨(gestureOf_ok s ok), rfl, trivial⟩, trivial⟩ ?_
    refine ae_then ?_
    refine aw_block ?_
    refine aw_seq ?_
    by_cases h3 : (gestI s) = 2
    ·refine aw_reg [(0, .dec true)] [2, 3, 4, 21, 23] [2, 3, 4] [.ref 2 0, .ref 3 0, .ref 4 0, I (gestI s), Bv true] [some (bxCellRow l), some (.box [slPoint false s.Points]), some (.box [I 0, I 0, I 0])] [(gestI s) = 2] (by kernel_rfl) hB ⟨h3, trivial⟩ ?_
     refine ae_then ?_
     refine aw_true rfl ?_
     refine aw_reg [] [2, 3, 4, 6] [2, 3, 4] [.ref 2 0, .ref 3 0, .ref 4 0, I 1] [some (bxCellRow l), some (.box [slPoint false s.Points]), some (.box [I 0, I 0, I 0])] [] (by kernel_rfl) hB trivial ?_
     refine ae_block 0 ?_
     refine ae_then ?_
     refine aw_seq ?_
     refine aw_reg [(1, .call [(true, .agg [slPoint false s.Points])] true (agBox (boxS s.Points s.Points.length))), (2, .new 7)] [2, 3, 4, 6, 7] [2, 3, 4, 7] [.ref 2 0, .ref 3 0, .ref 4 0, I 1, .ref 7 0] [some (bxCellRow l), some (.box [slPoint false s.Points]), some (.box [I 0, I 0, I 0]), some (bxBox (boxS s.Points s.Points.length))] [Con Tryz.prog 54 [.agg [slPoint false s.Points]] true (agBox (boxS s.Points s.Points.length)) ∧ ((.agg [slPoint false s.Points] : AV) = .agg [slPoint false s.Points]) ∧ True] (by kernel_rfl) hB ⟨⟨(boxOfStroke_ok s ok), rfl, trivial⟩, trivial⟩ ?_
     refine ae_then ?_
     refine aw_seq ?_
     refine aw_seq ?_
     by_cases h4 : (l.Y + (2 * l.Cell)) < ((boxS s.Points s.Points.length).Y1)
     ·refine aw_reg [(8, .dec true)] [2, 3, 4, 6, 7, 46] [2, 3, 4, 7] [.ref 2 0, .ref 3 0, .ref 4 0, I 1, .ref 7 0, Bv true] [some (bxCellRow l), some (.box [slPoint false s.Points]), some (.box [I 0, I 0, I 0]), some (bxBox (boxS s.Points s.Points.length))] [inR .i64 (2 * l.Cell), inR .i64 (l.Y + (2 * l.Cell)), (l.Y + (2 * l.Cell)) < ((boxS s.Points s.Points.length).Y1)] (by kernel_rfl) hB ⟨(inR_i64 (by omega) (by omega)), (inR_i64 (by omega) (by omega)), h4, trivial⟩ ?_
      refine ae_then ?_
      refine aw_true rfl ?_
      refine aw_seq ?_
      refine aw_reg [] [4, 5] [4] [.ref 4 0, I 3] [some (.box [I 0, I 0, I 0])] [] (by kernel_rfl) hB trivial ?_
      refine ae_then ?_
      refine aw_ret ?_
      refine ae_ret_then ?_
      refine ae_ret hB (.tup [.agg [I 0, I 0, I 0], I 3]) (by kernel_rfl) (.inl (by simp [editOfR, editR, kindI, *])) rfl (fun _ => (by simp [tagged, taggedL]))
     ·by_cases h5 : ((boxS s.Points s.Points.length).Y2) < l.Y
      ·refine aw_reg [(8, .dec false), (14, .dec true)] [2, 3, 4, 6, 7, 46] [2, 3, 4, 7] [.ref 2 0, .ref 3 0, .ref 4 0, I 1, .ref 7 0, Bv true] [some (bxCellRow l), some (.box [slPoint false s.Points]), some (.box [I 0, I 0, I 0]), some (bxBox (boxS s.Points s.Points.length))] [inR .i64 (2 * l.Cell), inR .i64 (l.Y + (2 * l.Cell)), ¬ ((l.Y + (2 * l.Cell)) < ((boxS s.Points s.Points.length).Y1)), ((boxS s.Points s.Points.length).Y2) < l.Y] (by kernel_rfl) hB ⟨(inR_i64 (by omega) (by omega)), (inR_i64 (by omega) (by omega)), h4, h5, trivial⟩ ?_
       refine ae_then ?_
       refine aw_true rfl ?_
       refine aw_seq ?_
       refine aw_reg [] [4, 5] [4] [.ref 4 0, I 3] [some (.box [I 0, I 0, I 0])] [] (by kernel_rfl) hB trivial ?_
       refine ae_then ?_
       refine aw_ret ?_
       refine ae_ret_then ?_
       refine ae_ret hB (.tup [.agg [I 0, I 0, I 0], I 3]) (by kernel_rfl) (.inl (by simp [editOfR, editR, kindI, *])) rfl (fun _ => (by simp [tagged, taggedL]))
      ·refine aw_reg [(8, .dec false), (14, .dec false)] [2, 3, 4, 6, 7, 46] [2, 3, 4, 7] [.ref 2 0, .ref 3 0, .ref 4 0, I 1, .ref 7 0, Bv false] [some (bxCellRow l), some (.box [slPoint false s.Points]), some (.box [I 0, I 0, I 0]), some (bxBox (boxS s.Points s.Points.length))] [inR .i64 (2 * l.Cell), inR .i64 (l.Y + (2 * l.Cell)), ¬ ((l.Y + (2 * l.Cell)) < ((boxS s.Points s.Points.length).Y1)), ¬ (((boxS s.Points s.Points.length).Y2) < l.Y)] (by kernel_rfl) hB ⟨(inR_i64 (by omega) (by omega)), (inR_i64 (by omega) (by omega)), h4, h5, trivial⟩ ?_
       refine ae_then ?_
       refine aw_false rfl ?_
       refine aw_skip ?_
       refine ae_then ?_
       refine aw_seq ?_
       refine aw_seq ?_
       refine aw_reg [(1, .dec false)] [2, 3, 4, 6, 7, 49] [2, 3, 4, 7] [.ref 2 0, .ref 3 0, .ref 4 0, I 1, .ref 7 0, Bv false] [some (bxCellRow l), some (.box [slPoint false s.Points]), some (.box [I 0, I 0, I 0]), some (bxBox (boxS s.Points s.Points.length))] [¬ ((1 : Int) = 3)] (by kernel_rfl) hB ⟨(by decide), trivial⟩ ?_
       refine ae_then ?_
       refine aw_false rfl ?_
       refine aw_skip ?_
       refine ae_then ?_
       refine aw_seq ?_
       refine aw_reg [(2, .call [(true, agCellRow l), (true, agBox (boxS s.Points s.Points.length))] true (.tup [I ((spanS l (boxS s.Points s.Points.length) l.Text.size).1), I ((spanS l (boxS s.Points s.Points.length) l.Text.size).2)]))] [4, 6, 9, 10] [4] [.ref 4 0, I 1, I ((spanS l (boxS s.Points s.Points.length) l.Text.size).1), I ((spanS l (boxS s.Points s.Points.length) l.Text.size).2)] [some (.box [I 0, I 0, I 0])] [Con Tryz.prog 56 [agCellRow l, agBox (boxS s.Points s.Points.length)] true (.tup [I ((spanS l (boxS s.Points s.Points.length) l.Text.size).1), I ((spanS l (boxS s.Points s.Points.length) l.Text.size).2)]) ∧ ((agCellRow l : AV) = agCellRow l) ∧ ((agBox (boxS s.Points s.Points.length) : AV) = agBox (boxS s.Points s.Points.length)) ∧ True] (by kernel_rfl) hB ⟨⟨(lettersUnder_ok l (boxS s.Points s.Points.length) hr0 (by omega)), rfl, rfl, trivial⟩, trivial⟩ ?_
       refine ae_then ?_
       refine aw_seq ?_
       refine aw_seq ?_
       by_cases h6 : ((spanS l (boxS s.Points s.Points.length) l.Text.size).2) = 0
       ·refine aw_reg [(1, .dec true)] [4, 6, 9, 10, 64] [4] [.ref 4 0, I 1, I ((spanS l (boxS s.Points s.Points.length) l.Text.size).1), I ((spanS l (boxS s.Points s.Points.length) l.Text.size).2), Bv true] [some (.box [I 0, I 0, I 0])] [((spanS l (boxS s.Points s.Points.length) l.Text.size).2) = 0] (by kernel_rfl) hB ⟨h6, trivial⟩ ?_
        refine ae_then ?_
        refine aw_true rfl ?_
        refine aw_seq ?_
        refine aw_reg [] [4, 5] [4] [.ref 4 0, I 3] [some (.box [I 0, I 0, I 0])] [] (by kernel_rfl) hB trivial ?_
        refine ae_then ?_
        refine aw_ret ?_
        refine ae_ret_then ?_
        refine ae_ret hB (.tup [.agg [I 0, I 0, I 0], I 3]) (by kernel_rfl) (.inl (by simp [editOfR, editR, kindI, *])) rfl (fun _ => (by simp [tagged, taggedL]))
       ·refine aw_reg [(1, .dec false)] [4, 6, 9, 10, 64] [4] [.ref 4 0, I 1, I ((spanS l (boxS s.Points s.Points.length) l.Text.size).1), I ((spanS l (boxS s.Points s.Points.length) l.Text.size).2), Bv false] [some (.box [I 0, I 0, I 0])] [¬ (((spanS l (boxS s.Points s.Points.length) l.Text.size).2) = 0)] (by kernel_rfl) hB ⟨h6, trivial⟩ ?_
        refine ae_then ?_
        refine aw_false rfl ?_
        refine aw_skip ?_
        refine ae_then ?_
        refine aw_seq ?_
        refine aw_reg [] [4, 5] [4] [.ref 4 0, I 0] [some (.box [I 1, I ((spanS l (boxS s.Points s.Points.length) l.Text.size).1), I ((spanS l (boxS s.Points s.Points.length) l.Text.size).2)])] [] (by kernel_rfl) hB trivial ?_
        refine ae_then ?_
        refine aw_ret ?_
        refine ae_ret hB (.tup [.agg [I 1, I ((spanS l (boxS s.Points s.Points.length) l.Text.size).1), I ((spanS l (boxS s.Points s.Points.length) l.Text.size).2)], I 0]) (by kernel_rfl) (.inl (by simp [editOfR, editR, kindI, *])) rfl (fun _ => (by simp [tagged, taggedL]))
    ·refine aw_reg [(0, .dec false)] [2, 3, 4, 21, 23] [2, 3, 4] [.ref 2 0, .ref 3 0, .ref 4 0, I (gestI s), Bv false] [some (bxCellRow l), some (.box [slPoint false s.Points]), some (.box [I 0, I 0, I 0])] [¬ ((gestI s) = 2)] (by kernel_rfl) hB ⟨h3, trivial⟩ ?_
     refine ae_then ?_
     refine aw_false rfl ?_
     refine aw_seq ?_
     by_cases h7 : (gestI s) = 3
     ·refine aw_reg [(0, .dec true)] [2, 3, 4, 21, 25] [2, 3, 4] [.ref 2 0, .ref 3 0, .ref 4 0, I (gestI s), Bv true] [some (bxCellRow l), some (.box [slPoint false s.Points]), some (.box [I 0, I 0, I 0])] [(gestI s) = 3] (by kernel_rfl) hB ⟨h7, trivial⟩ ?_
      refine ae_then ?_
      refine aw_true rfl ?_
      refine aw_reg [] [2, 3, 4, 6] [2, 3, 4] [.ref 2 0, .ref 3 0, .ref 4 0, I 2] [some (bxCellRow l), some (.box [slPoint false s.Points]), some (.box [I 0, I 0, I 0])] [] (by kernel_rfl) hB trivial ?_
      refine ae_block 0 ?_
      refine ae_then ?_
      refine aw_seq ?_
      refine aw_reg [(1, .call [(true, .agg [slPoint false s.Points])] true (agBox (boxS s.Points s.Points.length))), (2, .new 7)] [2, 3, 4, 6, 7] [2, 3, 4, 7] [.ref 2 0, .ref 3 0, .ref 4 0, I 2, .ref 7 0] [some (bxCellRow l), some (.box [slPoint false s.Points]), some (.box [I 0, I 0, I 0]), some (bxBox (boxS s.Points s.Points.length))] [Con Tryz.prog 54 [.agg [slPoint false s.Points]] true (agBox (boxS s.Points s.Points.length)) ∧ ((.agg [slPoint false s.Points] : AV) = .agg [slPoint false s.Points]) ∧ True] (by kernel_rfl) hB ⟨⟨(boxOfStroke_ok s ok), rfl, trivial⟩, trivial⟩ ?_
      refine ae_then ?_
      refine aw_seq ?_
      refine aw_seq ?_
      by_cases h8 : (l.Y + (2 * l.Cell)) < ((boxS s.Points s.Points.length).Y1)
      ·refine aw_reg [(8, .dec true)] [2, 3, 4, 6, 7, 46] [2, 3, 4, 7] [.ref 2 0, .ref 3 0, .ref 4 0, I 2, .ref 7 0, Bv true] [some (bxCellRow l), some (.box [slPoint false s.Points]), some (.box [I 0, I 0, I 0]), some (bxBox (boxS s.Points s.Points.length))] [inR .i64 (2 * l.Cell), inR .i64 (l.Y + (2 * l.Cell)), (l.Y + (2 * l.Cell)) < ((boxS s.Points s.Points.length).Y1)] (by kernel_rfl) hB ⟨(inR_i64 (by omega) (by omega)), (inR_i64 (by omega) (by omega)), h8, trivial⟩ ?_
       refine ae_then ?_
       refine aw_true rfl ?_
       refine aw_seq ?_
       refine aw_reg [] [4, 5] [4] [.ref 4 0, I 3] [some (.box [I 0, I 0, I 0])] [] (by kernel_rfl) hB trivial ?_
       refine ae_then ?_
       refine aw_ret ?_
       refine ae_ret_then ?_
       refine ae_ret hB (.tup [.agg [I 0, I 0, I 0], I 3]) (by kernel_rfl) (.inl (by simp [editOfR, editR, kindI, *])) rfl (fun _ => (by simp [tagged, taggedL]))
      ·by_cases h9 : ((boxS s.Points s.Points.length).Y2) < l.Y
       ·refine aw_reg [(8, .dec false), (14, .dec true)] [2, 3, 4, 6, 7, 46] [2, 3, 4, 7] [.ref 2 0, .ref 3 0, .ref 4 0, I 2, .ref 7 0, Bv true] [some (bxCellRow l), some (.box [slPoint false s.Points]), some (.box [I 0, I 0, I 0]), some (bxBox (boxS s.Points s.Points.length))] [inR .i64 (2 * l.Cell), inR .i64 (l.Y + (2 * l.Cell)), ¬ ((l.Y + (2 * l.Cell)) < ((boxS s.Points s.Points.length).Y1)), ((boxS s.Points s.Points.length).Y2) < l.Y] (by kernel_rfl) hB ⟨(inR_i64 (by omega) (by omega)), (inR_i64 (by omega) (by omega)), h8, h9, trivial⟩ ?_
        refine ae_then ?_
        refine aw_true rfl ?_
        refine aw_seq ?_
        refine aw_reg [] [4, 5] [4] [.ref 4 0, I 3] [some (.box [I 0, I 0, I 0])] [] (by kernel_rfl) hB trivial ?_
        refine ae_then ?_
        refine aw_ret ?_
        refine ae_ret_then ?_
        refine ae_ret hB (.tup [.agg [I 0, I 0, I 0], I 3]) (by kernel_rfl) (.inl (by simp [editOfR, editR, kindI, *])) rfl (fun _ => (by simp [tagged, taggedL]))
       ·refine aw_reg [(8, .dec false), (14, .dec false)] [2, 3, 4, 6, 7, 46] [2, 3, 4, 7] [.ref 2 0, .ref 3 0, .ref 4 0, I 2, .ref 7 0, Bv false] [some (bxCellRow l), some (.box [slPoint false s.Points]), some (.box [I 0, I 0, I 0]), some (bxBox (boxS s.Points s.Points.length))] [inR .i64 (2 * l.Cell), inR .i64 (l.Y + (2 * l.Cell)), ¬ ((l.Y + (2 * l.Cell)) < ((boxS s.Points s.Points.length).Y1)), ¬ (((boxS s.Points s.Points.length).Y2) < l.Y)] (by kernel_rfl) hB ⟨(inR_i64 (by omega) (by omega)), (inR_i64 (by omega) (by omega)), h8, h9, trivial⟩ ?_
        refine ae_then ?_
        refine aw_false rfl ?_
        refine aw_skip ?_
        refine ae_then ?_
        refine aw_seq ?_
        refine aw_seq ?_
        refine aw_reg [(1, .dec false)] [2, 3, 4, 6, 7, 49] [2, 3, 4, 7] [.ref 2 0, .ref 3 0, .ref 4 0, I 2, .ref 7 0, Bv false] [some (bxCellRow l), some (.box [slPoint false s.Points]), some (.box [I 0, I 0, I 0]), some (bxBox (boxS s.Points s.Points.length))] [¬ ((2 : Int) = 3)] (by kernel_rfl) hB ⟨(by decide), trivial⟩ ?_
        refine ae_then ?_
        refine aw_false rfl ?_
        refine aw_skip ?_
        refine ae_then ?_
        refine aw_seq ?_
        refine aw_reg [(2, .call [(true, agCellRow l), (true, agBox (boxS s.Points s.Points.length))] true (.tup [I ((spanS l (boxS s.Points s.Points.length) l.Text.size).1), I ((spanS l (boxS s.Points s.Points.length) l.Text.size).2)]))] [4, 6, 9, 10] [4] [.ref 4 0, I 2, I ((spanS l (boxS s.Points s.Points.length) l.Text.size).1), I ((spanS l (boxS s.Points s.Points.length) l.Text.size).2)] [some (.box [I 0, I 0, I 0])] [Con Tryz.prog 56 [agCellRow l, agBox (boxS s.Points s.Points.length)] true (.tup [I ((spanS l (boxS s.Points s.Points.length) l.Text.size).1), I ((spanS l (boxS s.Points s.Points.length) l.Text.size).2)]) ∧ ((agCellRow l : AV) = agCellRow l) ∧ ((agBox (boxS s.Points s.Points.length) : AV) = agBox (boxS s.Points s.Points.length)) ∧ True] (by kernel_rfl) hB ⟨⟨(lettersUnder_ok l (boxS s.Points s.Points.length) hr0 (by omega)), rfl, rfl, trivial⟩, trivial⟩ ?_
        refine ae_then ?_
        refine aw_seq ?_
        refine aw_seq ?_
        by_cases h10 : ((spanS l (boxS s.Points s.Points.length) l.Text.size).2) = 0
        ·refine aw_reg [(1, .dec true)] [4, 6, 9, 10, 64] [4] [.ref 4 0, I 2, I ((spanS l (boxS s.Points s.Points.length) l.Text.size).1), I ((spanS l (boxS s.Points s.Points.length) l.Text.size).2), Bv true] [some (.box [I 0, I 0, I 0])] [((spanS l (boxS s.Points s.Points.length) l.Text.size).2) = 0] (by kernel_rfl) hB ⟨h10, trivial⟩ ?_
         refine ae_then ?_
         refine aw_true rfl ?_
         refine aw_seq ?_
         refine aw_reg [] [4, 5] [4] [.ref 4 0, I 3] [some (.box [I 0, I 0, I 0])] [] (by kernel_rfl) hB trivial ?_
         refine ae_then ?_
         refine aw_ret ?_
         refine ae_ret_then ?_
         refine ae_ret hB (.tup [.agg [I 0, I 0, I 0], I 3]) (by kernel_rfl) (.inl (by simp [editOfR, editR, kindI, *])) rfl (fun _ => (by simp [tagged, taggedL]))
        ·refine aw_reg [(1, .dec false)] [4, 6, 9, 10, 64] [4] [.ref 4 0, I 2, I ((spanS l (boxS s.Points s.Points.length) l.Text.size).1), I ((spanS l (boxS s.Points s.Points.length) l.Text.size).2), Bv false] [some (.box [I 0, I 0, I 0])] [¬ (((spanS l (boxS s.Points s.Points.length) l.Text.size).2) = 0)] (by kernel_rfl) hB ⟨h10, trivial⟩ ?_
         refine ae_then ?_
         refine aw_false rfl ?_
         refine aw_skip ?_
         refine ae_then ?_
         refine aw_seq ?_
         refine aw_reg [] [4, 5] [4] [.ref 4 0, I 0] [some (.box [I 2, I ((spanS l (boxS s.Points s.Points.length) l.Text.size).1), I ((spanS l (boxS s.Points s.Points.length) l.Text.size).2)])] [] (by kernel_rfl) hB trivial ?_
         refine ae_then ?_
         refine aw_ret ?_
         refine ae_ret hB (.tup [.agg [I 2, I ((spanS l (boxS s.Points s.Points.length) l.Text.size).1), I ((spanS l (boxS s.Points s.Points.length) l.Text.size).2)], I 0]) (by kernel_rfl) (.inl (by simp [editOfR, editR, kindI, *])) rfl (fun _ => (by simp [tagged, taggedL]))
     ·refine aw_reg [(0, .dec false)] [2, 3, 4, 21, 25] [2, 3, 4] [.ref 2 0, .ref 3 0, .ref 4 0, I (gestI s), Bv false] [some (bxCellRow l), some (.box [slPoint false s.Points]), some (.box [I 0, I 0, I 0])] [¬ ((gestI s) = 3)] (by kernel_rfl) hB ⟨h7, trivial⟩ ?_
      refine ae_then ?_
      refine aw_false rfl ?_
      refine aw_seq ?_
      by_cases h11 : (gestI s) = 4
      ·refine aw_reg [(0, .dec true)] [2, 3, 4, 27] [2, 3, 4] [.ref 2 0, .ref 3 0, .ref 4 0, Bv true] [some (bxCellRow l), some (.box [slPoint false s.Points]), some (.box [I 0, I 0, I 0])] [(gestI s) = 4] (by kernel_rfl) hB ⟨h11, trivial⟩ ?_
       refine ae_then ?_
       refine aw_true rfl ?_
       refine aw_reg [] [2, 3, 4, 6] [2, 3, 4] [.ref 2 0, .ref 3 0, .ref 4 0, I 3] [some (bxCellRow l), some (.box [slPoint false s.Points]), some (.box [I 0, I 0, I 0])] [] (by kernel_rfl) hB trivial ?_
       refine ae_block 0 ?_
       refine ae_then ?_
       refine aw_seq ?_
       refine aw_reg [(1, .call [(true, .agg [slPoint false s.Points])] true (agBox (boxS s.Points s.Points.length))), (2, .new 7)] [2, 3, 4, 6, 7] [2, 3, 4, 7] [.ref 2 0, .ref 3 0, .ref 4 0, I 3, .ref 7 0] [some (bxCellRow l), some (.box [slPoint false s.Points]), some (.box [I 0, I 0, I 0]), some (bxBox (boxS s.Points s.Points.length))] [Con Tryz.prog 54 [.agg [slPoint false s.Points]] true (agBox (boxS s.Points s.Points.length)) ∧ ((.agg [slPoint false s.Points] : AV) = .agg [slPoint false s.Points]) ∧ True] (by kernel_rfl) hB ⟨⟨(boxOfStroke_ok s ok), rfl, trivial⟩, trivial⟩ ?_
       refine ae_then ?_
       refine aw_seq ?_
       refine aw_seq ?_
       by_cases h12 : (l.Y + (2 * l.Cell)) < ((boxS s.Points s.Points.length).Y1)
       ·refine aw_reg [(8, .dec true)] [2, 3, 4, 6, 7, 46] [2, 3, 4, 7] [.ref 2 0, .ref 3 0, .ref 4 0, I 3, .ref 7 0, Bv true] [some (bxCellRow l), some (.box [slPoint false s.Points]), some (.box [I 0, I 0, I 0]), some (bxBox (boxS s.Points s.Points.length))] [inR .i64 (2 * l.Cell), inR .i64 (l.Y + (2 * l.Cell)), (l.Y + (2 * l.Cell)) < ((boxS s.Points s.Points.length).Y1)] (by kernel_rfl) hB ⟨(inR_i64 (by omega) (by omega)), (inR_i64 (by omega) (by omega)), h12, trivial⟩ ?_
        refine ae_then ?_
        refine aw_true rfl ?_
        refine aw_seq ?_
        refine aw_reg [] [4, 5] [4] [.ref 4 0, I 3] [some (.box [I 0, I 0, I 0])] [] (by kernel_rfl) hB trivial ?_
        refine ae_then ?_
        refine aw_ret ?_
        refine ae_ret_then ?_
        refine ae_ret hB (.tup [.agg [I 0, I 0, I 0], I 3]) (by kernel_rfl) (.inl (by simp [editOfR, editR, kindI, *])) rfl (fun _ => (by simp [tagged, taggedL]))
       ·by_cases h13 : ((boxS s.Points s.Points.length).Y2) < l.Y
        ·refine aw_reg [(8, .dec false), (14, .dec true)] [2, 3, 4, 6, 7, 46] [2, 3, 4, 7] [.ref 2 0, .ref 3 0, .ref 4 0, I 3, .ref 7 0, Bv true] [some (bxCellRow l), some (.box [slPoint false s.Points]), some (.box [I 0, I 0, I 0]), some (bxBox (boxS s.Points s.Points.length))] [inR .i64 (2 * l.Cell), inR .i64 (l.Y + (2 * l.Cell)), ¬ ((l.Y + (2 * l.Cell)) < ((boxS s.Points s.Points.length).Y1)), ((boxS s.Points s.Points.length).Y2) < l.Y] (by kernel_rfl) hB ⟨(inR_i64 (by omega) (by omega)), (inR_i64 (by omega) (by omega)), h12, h13, trivial⟩ ?_
         refine ae_then ?_
         refine aw_true rfl ?_
         refine aw_seq ?_
         refine aw_reg [] [4, 5] [4] [.ref 4 0, I 3] [some (.box [I 0, I 0, I 0])] [] (by kernel_rfl) hB trivial ?_
         refine ae_then ?_
         refine aw_ret ?_
         refine ae_ret_then ?_
         refine ae_ret hB (.tup [.agg [I 0, I 0, I 0], I 3]) (by kernel_rfl) (.inl (by simp [editOfR, editR, kindI, *])) rfl (fun _ => (by simp [tagged, taggedL]))
        ·refine aw_reg [(8, .dec false), (14, .dec false)] [2, 3, 4, 6, 7, 46] [2, 3, 4, 7] [.ref 2 0, .ref 3 0, .ref 4 0, I 3, .ref 7 0, Bv false] [some (bxCellRow l), some (.box [slPoint false s.Points]), some (.box [I 0, I 0, I 0]), some (bxBox (boxS s.Points s.Points.length))] [inR .i64 (2 * l.Cell), inR .i64 (l.Y + (2 * l.Cell)), ¬ ((l.Y + (2 * l.Cell)) < ((boxS s.Points s.Points.length).Y1)), ¬ (((boxS s.Points s.Points.length).Y2) < l.Y)] (by kernel_rfl) hB ⟨(inR_i64 (by omega) (by omega)), (inR_i64 (by omega) (by omega)), h12, h13, trivial⟩ ?_
         refine ae_then ?_
         refine aw_false rfl ?_
         refine aw_skip ?_
         refine ae_then ?_
         refine aw_seq ?_
         refine aw_seq ?_
         refine aw_reg [(1, .dec true)] [2, 3, 4, 6, 7, 49] [2, 3, 4, 7] [.ref 2 0, .ref 3 0, .ref 4 0, I 3, .ref 7 0, Bv true] [some (bxCellRow l), some (.box [slPoint false s.Points]), some (.box [I 0, I 0, I 0]), some (bxBox (boxS s.Points s.Points.length))] [(3 : Int) = 3] (by kernel_rfl) hB ⟨(by decide), trivial⟩ ?_
         refine ae_then ?_
         refine aw_true rfl ?_
         refine aw_seq ?_
         refine aw_reg [(2, .call [(true, agCellRow l), (true, .agg [slPoint false s.Points])] true (I (placeS l (at_ s.Points (tipS s.Points s.Points.length)).X l.Text.size)))] [4, 6, 8] [4] [.ref 4 0, I 3, I (placeS l (at_ s.Points (tipS s.Points s.Points.length)).X l.Text.size)] [some (.box [I 0, I 0, I 0])] [Con Tryz.prog 55 [agCellRow l, .agg [slPoint false s.Points]] true (I (placeS l (at_ s.Points (tipS s.Points s.Points.length)).X l.Text.size)) ∧ ((agCellRow l : AV) = agCellRow l) ∧ ((.agg [slPoint false s.Points] : AV) = .agg [slPoint false s.Points]) ∧ True] (by kernel_rfl) hB ⟨⟨(insertPlace_ok l s hr0 ok), rfl, rfl, trivial⟩, trivial⟩ ?_
         refine ae_then ?_
         refine aw_seq ?_
         refine aw_reg [] [4, 5] [4] [.ref 4 0, I 0] [some (.box [I 3, I (placeS l (at_ s.Points (tipS s.Points s.Points.length)).X l.Text.size), I (placeS l (at_ s.Points (tipS s.Points s.Points.length)).X l.Text.size)])] [] (by kernel_rfl) hB trivial ?_
         refine ae_then ?_
         refine aw_ret ?_
         refine ae_ret_then ?_
         refine ae_ret hB (.tup [.agg [I 3, I (placeS l (at_ s.Points (tipS s.Points s.Points.length)).X l.Text.size), I (placeS l (at_ s.Points (tipS s.Points s.Points.length)).X l.Text.size)], I 0]) (by kernel_rfl) (.inl (by simp [editOfR, editR, kindI, *])) rfl (fun _ => (by simp [tagged, taggedL]))
      ·refine aw_reg [(0, .dec false)] [2, 3, 4, 27] [2, 3, 4] [.ref 2 0, .ref 3 0, .ref 4 0, Bv false] [some (bxCellRow l), some (.box [slPoint false s.Points]), some (.box [I 0, I 0, I 0])] [¬ ((gestI s) = 4)] (by kernel_rfl) hB ⟨h11, trivial⟩ ?_
       refine ae_then ?_
       refine aw_false rfl ?_
       refine aw_seq ?_
       refine aw_reg [] [4, 5] [4] [.ref 4 0, I 6] [some (.box [I 0, I 0, I 0])] [] (by kernel_rfl) hB trivial ?_
       refine ae_then ?_
       refine aw_ret ?_
       refine ae_ret_block (ae_ret_then ?_)
       refine ae_ret hB (.tup [.agg [I 0, I 0, I 0], I 6]) (by kernel_rfl) (.inl (by simp [editOfR, editR, kindI, *])) rfl (fun _ => (by simp [tagged, taggedL]))
   ·refine aw_reg [(1, .call [(true, agCellRow l)] true (Bv true)), (5, .call [(true, .agg [slPoint false s.Points])] true (Bv false))] [2, 3, 4, 18] [2, 3, 4] [.ref 2 0, .ref 3 0, .ref 4 0, Bv true] [some (bxCellRow l), some (.box [slPoint false s.Points]), some (.box [I 0, I 0, I 0])] [Con Tryz.prog 17 [agCellRow l] true (Bv true) ∧ ((agCellRow l : AV) = agCellRow l) ∧ True, Con Tryz.prog 33 [.agg [slPoint false s.Points]] true (Bv false) ∧ ((.agg [slPoint false s.Points] : AV) = .agg [slPoint false s.Points]) ∧ True] (by kernel_rfl) hB ⟨⟨(con_bool h1 (ValidCellRow_ok l okl)), rfl, trivial⟩, ⟨(con_bool h2 (ValidStroke_ok s)), rfl, trivial⟩, trivial⟩ ?_
    refine ae_then ?_
    refine aw_true rfl ?_
    refine aw_seq ?_
    refine aw_reg [] [4, 5] [4] [.ref 4 0, I 1] [some (.box [I 0, I 0, I 0])] [] (by kernel_rfl) hB trivial ?_
    refine ae_then ?_
    refine aw_ret ?_
    refine ae_ret_then ?_
    refine ae_ret hB (.tup [.agg [I 0, I 0, I 0], I 1]) (by kernel_rfl) (.inl (by simp [editOfR, editR, kindI, *])) rfl (fun _ => (by simp [tagged, taggedL]))
  ·refine aw_reg [(1, .call [(true, agCellRow l)] true (Bv false))] [2, 3, 4, 18] [2, 3, 4] [.ref 2 0, .ref 3 0, .ref 4 0, Bv true] [some (bxCellRow l), some (.box [slPoint false s.Points]), some (.box [I 0, I 0, I 0])] [Con Tryz.prog 17 [agCellRow l] true (Bv false) ∧ ((agCellRow l : AV) = agCellRow l) ∧ True] (by kernel_rfl) hB ⟨⟨(con_bool h1 (ValidCellRow_ok l okl)), rfl, trivial⟩, trivial⟩ ?_
   refine ae_then ?_
   refine aw_true rfl ?_
   refine aw_seq ?_
   refine aw_reg [] [4, 5] [4] [.ref 4 0, I 1] [some (.box [I 0, I 0, I 0])] [] (by kernel_rfl) hB trivial ?_
   refine ae_then ?_
   refine aw_ret ?_
   refine ae_ret_then ?_
   refine ae_ret hB (.tup [.agg [I 0, I 0, I 0], I 1]) (by kernel_rfl) (.inl (by simp [editOfR, editR, kindI, *])) rfl (fun _ => (by simp [tagged, taggedL]))


-- spec.l02Point
theorem l02Point_ok (p : Point) : Con Tryz.prog 69 [agPoint p] true (Bv (okP p)) := by
  refine fn_ok (fn := Tryz.f69) (nt := 16) Tryz.func69 rfl rfl rfl rfl (by simp [taggedL, tagged]) fun B hB => ?_
  refine aw_seq ?_
  refine aw_reg [(0, .new 1)] [1] [1] [.ref 1 0] [some (bxPoint p)] [] (by kernel_rfl) hB trivial ?_
  refine ae_then ?_
  refine aw_seq ?_
  rcases Bool.eq_false_or_eq_true (inB p.X 0 4095) with h1 | h1
  ·rcases Bool.eq_false_or_eq_true (inB p.Y 0 4095) with h2 | h2
   ·refine aw_reg [(2, .call [(true, I p.X), (true, I 0), (true, I 4095)] true (Bv true)), (6, .call [(true, I p.Y), (true, I 0), (true, I 4095)] true (Bv true)), (11, .call [(true, I p.T), (true, I 0), (true, I 3600000)] true (Bv (inB p.T 0 3600000)))] [2] [] [Bv (inB p.T 0 3600000)] [] [Con Tryz.prog 46 [I p.X, I 0, I 4095] true (Bv true) ∧ ((I p.X : AV) = I p.X) ∧ ((I 0 : AV) = I 0) ∧ ((I 4095 : AV) = I 4095) ∧ True, Con Tryz.prog 46 [I p.Y, I 0, I 4095] true (Bv true) ∧ ((I p.Y : AV) = I p.Y) ∧ ((I 0 : AV) = I 0) ∧ ((I 4095 : AV) = I 4095) ∧ True, Con Tryz.prog 46 [I p.T, I 0, I 3600000] true (Bv (inB p.T 0 3600000)) ∧ ((I p.T : AV) = I p.T) ∧ ((I 0 : AV) = I 0) ∧ ((I 3600000 : AV) = I 3600000) ∧ True] (by kernel_rfl) hB ⟨⟨(con_bool h1 (l00In_ok p.X 0 4095)), rfl, rfl, rfl, trivial⟩, ⟨(con_bool h2 (l00In_ok p.Y 0 4095)), rfl, rfl, rfl, trivial⟩, ⟨(l00In_ok p.T 0 3600000), rfl, rfl, rfl, trivial⟩, trivial⟩ ?_
    refine ae_then ?_
    refine aw_ret ?_
    refine ae_ret hB (Bv (inB p.T 0 3600000)) (by kernel_rfl) (.inl (by first | rfl | (refine congrArg Bv ?_; simp [okP, *]; done) | (refine congrArg Bv ?_; simp [okP, *]; omega) | (refine congrArg Bv ?_; simp_all [okP]; done) | (refine congrArg Bv ?_; simp_all [okP]; omega))) rfl (fun _ => trivial)
   ·refine aw_reg [(2, .call [(true, I p.X), (true, I 0), (true, I 4095)] true (Bv true)), (6, .call [(true, I p.Y), (true, I 0), (true, I 4095)] true (Bv false))] [2] [] [Bv false] [] [Con Tryz.prog 46 [I p.X, I 0, I 4095] true (Bv true) ∧ ((I p.X : AV) = I p.X) ∧ ((I 0 : AV) = I 0) ∧ ((I 4095 : AV) = I 4095) ∧ True, Con Tryz.prog 46 [I p.Y, I 0, I 4095] true (Bv false) ∧ ((I p.Y : AV) = I p.Y) ∧ ((I 0 : AV) = I 0) ∧ ((I 4095 : AV) = I 4095) ∧ True] (by kernel_rfl) hB ⟨⟨(con_bool h1 (l00In_ok p.X 0 4095)), rfl, rfl, rfl, trivial⟩, ⟨(con_bool h2 (l00In_ok p.Y 0 4095)), rfl, rfl, rfl, trivial⟩, trivial⟩ ?_
    refine ae_then ?_
    refine aw_ret ?_
    refine ae_ret hB (Bv false) (by kernel_rfl) (.inl (by first | rfl | (refine congrArg Bv ?_; simp [okP, *]; done) | (refine congrArg Bv ?_; simp [okP, *]; omega) | (refine congrArg Bv ?_; simp_all [okP]; done) | (refine congrArg Bv ?_; simp_all [okP]; omega))) rfl (fun _ => trivial)
  ·refine aw_reg [(2, .call [(true, I p.X), (true, I 0), (true, I 4095)] true (Bv false))] [2] [] [Bv false] [] [Con Tryz.prog 46 [I p.X, I 0, I 4095] true (Bv false) ∧ ((I p.X : AV) = I p.X) ∧ ((I 0 : AV) = I 0) ∧ ((I 4095 : AV) = I 4095) ∧ True] (by kernel_rfl) hB ⟨⟨(con_bool h1 (l00In_ok p.X 0 4095)), rfl, rfl, rfl, trivial⟩, trivial⟩ ?_
   refine ae_then ?_
   refine aw_ret ?_
   refine ae_ret hB (Bv false) (by kernel_rfl) (.inl (by first | rfl | (refine congrArg Bv ?_; simp [okP, *]; done) | (refine congrArg Bv ?_; simp [okP, *]; omega) | (refine congrArg Bv ?_; simp_all [okP]; done) | (refine congrArg Bv ?_; simp_all [okP]; omega))) rfl (fun _ => trivial)


-- spec.l02Stroke
theorem l02Stroke_ok (s : Stroke) : Con Tryz.prog 35 [.ptr false [slPoint false s.Points]] true (Bv (okStroke' s)) := by
  refine fn_ok (fn := Tryz.f35) (nt := 52) Tryz.func35 rfl rfl rfl rfl (by simp [taggedL, tagged, tagPoint]) fun B hB => ?_
  refine aw_lens (x := .ptr false [slPoint false s.Points]) 0 rfl (fun len_s => ?_)
  simp [LenOK, LenL, cPoint, fPoint, slPoint] at len_s
  refine aw_seq ?_
  refine aw_reg [] [0] [] [.ptr false [slPoint false s.Points]] [] [] (by kernel_rfl) hB trivial ?_
  refine ae_then ?_
  refine aw_seq ?_
  refine aw_seq ?_
  refine aw_reg [] [0, 3] [] [.ptr false [slPoint false s.Points], I 0] [] [] (by kernel_rfl) hB trivial ?_
  refine ae_then ?_
  refine aw_block ?_
  refine aw_loop (fun gn gσ => ∃ (i : Int), gn = ((s.Points.length : Int) - i).toNat ∧ (0 ≤ i ∧ i ≤ (s.Points.length : Int)) ∧ (∀ j : Nat, (j : Int) < i → okPt s.Points j = true) ∧ gσ = mkS [(0, .ptr false [slPoint false s.Points]), (3, I i)] []) (((s.Points.length : Int) - 0).toNat) ⟨0, rfl, (by omega), (by intro j hj; omega), rfl⟩ (fun gn gσ hI => ?_)
  obtain ⟨i, rfl, hi0, hall0, rfl⟩ := hI
  refine aw_seq ?_
  refine aw_seq ?_
  by_cases h1 : i < (s.Points.length : Int)
  ·have hi : i.toNat < s.Points.length := by omega
   refine aw_reg [(6, .dec true)] [0, 3, 10] [] [.ptr false [slPoint false s.Points], I i, Bv true] [] [i < (s.Points.length : Int)] (by kernel_rfl) hB ⟨h1, trivial⟩ ?_
   refine ae_then ?_
   refine aw_true rfl ?_
   refine aw_skip ?_
   refine ae_then ?_
   refine aw_seq ?_
   refine aw_block ?_
   refine aw_seq ?_
   rcases Bool.eq_false_or_eq_true (okP (at_ s.Points i.toNat)) with h2 | h2
   ·by_cases h3 : 0 < i
    ·by_cases h4 : ((at_ s.Points i.toNat).T) ≤ ((at_ s.Points ((i - 1).toNat)).T)
     ·have hall : allN s.Points.length (okPt s.Points) = false := allN_not hi (okPt_no h3 h4)
      refine aw_reg [(7, .call [(true, agPoint (at_ s.Points i.toNat))] true (Bv true)), (11, .dec true), (30, .dec true)] [0, 3, 45] [] [.ptr false [slPoint false s.Points], I i, Bv true] [] [(0 : Int) ≤ i ∧ i < (s.Points.length : Int), Con Tryz.prog 69 [agPoint (at_ s.Points i.toNat)] true (Bv true) ∧ ((agPoint (at_ s.Points i.toNat) : AV) = agPoint (at_ s.Points i.toNat)) ∧ True, 0 < i, (0 : Int) ≤ i ∧ i < (s.Points.length : Int), inR .i64 (i - 1), (0 : Int) ≤ (i - 1) ∧ (i - 1) < (s.Points.length : Int), ((at_ s.Points i.toNat).T) ≤ ((at_ s.Points ((i - 1).toNat)).T)] (by kernel_rfl) hB ⟨⟨(by omega), (by omega)⟩, ⟨(con_bool h2 (l02Point_ok (at_ s.Points i.toNat))), rfl, trivial⟩, h3, ⟨(by omega), (by omega)⟩, (inR_i64 (by omega) (by omega)), ⟨(by omega), (by omega)⟩, h4, trivial⟩ ?_
      refine ae_then ?_
      refine aw_true rfl ?_
      refine aw_seq ?_
      refine aw_reg [] [2] [] [Bv false] [] [] (by kernel_rfl) hB trivial ?_
      refine ae_then ?_
      refine aw_ret ?_
      refine ae_ret_block (ae_ret_then (ae_ret_then (ae_ret_block (ae_ret_then ?_))))
      refine ae_ret hB (Bv false) (by kernel_rfl) (.inl (by first | rfl | (refine congrArg Bv ?_; simp [okStroke', inB, *]; done) | (refine congrArg Bv ?_; simp [okStroke', inB, *]; omega) | (refine congrArg Bv ?_; simp_all [okStroke', inB]; done) | (refine congrArg Bv ?_; simp_all [okStroke', inB]; omega))) rfl (fun _ => trivial)
     ·have hok := okPt_yes h2 h3 h4
      refine aw_reg [(7, .call [(true, agPoint (at_ s.Points i.toNat))] true (Bv true)), (11, .dec true), (30, .dec false)] [0, 3, 45] [] [.ptr false [slPoint false s.Points], I i, Bv false] [] [(0 : Int) ≤ i ∧ i < (s.Points.length : Int), Con Tryz.prog 69 [agPoint (at_ s.Points i.toNat)] true (Bv true) ∧ ((agPoint (at_ s.Points i.toNat) : AV) = agPoint (at_ s.Points i.toNat)) ∧ True, 0 < i, (0 : Int) ≤ i ∧ i < (s.Points.length : Int), inR .i64 (i - 1), (0 : Int) ≤ (i - 1) ∧ (i - 1) < (s.Points.length : Int), ¬ (((at_ s.Points i.toNat).T) ≤ ((at_ s.Points ((i - 1).toNat)).T))] (by kernel_rfl) hB ⟨⟨(by omega), (by omega)⟩, ⟨(con_bool h2 (l02Point_ok (at_ s.Points i.toNat))), rfl, trivial⟩, h3, ⟨(by omega), (by omega)⟩, (inR_i64 (by omega) (by omega)), ⟨(by omega), (by omega)⟩, h4, trivial⟩ ?_
      refine ae_then ?_
      refine aw_false rfl ?_
      refine aw_skip ?_
      refine ae_block 1 ?_
      refine ae_then ?_
      refine aw_reg [] [0, 3] [] [.ptr false [slPoint false s.Points], I (i + 1)] [] [inR .i64 (i + 1)] (by kernel_rfl) hB ⟨(inR_i64 (by omega) (by omega)), trivial⟩ ?_
      exact ae_again _ (by omega) ⟨(i + 1), rfl, (by omega), (by intro j hj; by_cases ej : j = i.toNat; (subst ej; first | assumption | exact hok); exact hall0 j (by omega)), rfl⟩
    ·have hok := okPt_zero h2 hi0.1 h3
     refine aw_reg [(7, .call [(true, agPoint (at_ s.Points i.toNat))] true (Bv true)), (11, .dec false)] [0, 3, 45] [] [.ptr false [slPoint false s.Points], I i, Bv false] [] [(0 : Int) ≤ i ∧ i < (s.Points.length : Int), Con Tryz.prog 69 [agPoint (at_ s.Points i.toNat)] true (Bv true) ∧ ((agPoint (at_ s.Points i.toNat) : AV) = agPoint (at_ s.Points i.toNat)) ∧ True, ¬ (0 < i)] (by kernel_rfl) hB ⟨⟨(by omega), (by omega)⟩, ⟨(con_bool h2 (l02Point_ok (at_ s.Points i.toNat))), rfl, trivial⟩, h3, trivial⟩ ?_
     refine ae_then ?_
     refine aw_false rfl ?_
     refine aw_skip ?_
     refine ae_block 1 ?_
     refine ae_then ?_
     refine aw_reg [] [0, 3] [] [.ptr false [slPoint false s.Points], I (i + 1)] [] [inR .i64 (i + 1)] (by kernel_rfl) hB ⟨(inR_i64 (by omega) (by omega)), trivial⟩ ?_
     exact ae_again _ (by omega) ⟨(i + 1), rfl, (by omega), (by intro j hj; by_cases ej : j = i.toNat; (subst ej; first | assumption | exact hok); exact hall0 j (by omega)), rfl⟩
   ·have hall : allN s.Points.length (okPt s.Points) = false := allN_not hi (okPt_bad h2)
    refine aw_reg [(7, .call [(true, agPoint (at_ s.Points i.toNat))] true (Bv false))] [0, 3, 45] [] [.ptr false [slPoint false s.Points], I i, Bv true] [] [(0 : Int) ≤ i ∧ i < (s.Points.length : Int), Con Tryz.prog 69 [agPoint (at_ s.Points i.toNat)] true (Bv false) ∧ ((agPoint (at_ s.Points i.toNat) : AV) = agPoint (at_ s.Points i.toNat)) ∧ True] (by kernel_rfl) hB ⟨⟨(by omega), (by omega)⟩, ⟨(con_bool h2 (l02Point_ok (at_ s.Points i.toNat))), rfl, trivial⟩, trivial⟩ ?_
    refine ae_then ?_
    refine aw_true rfl ?_
    refine aw_seq ?_
    refine aw_reg [] [2] [] [Bv false] [] [] (by kernel_rfl) hB trivial ?_
    refine ae_then ?_
    refine aw_ret ?_
    refine ae_ret_block (ae_ret_then (ae_ret_then (ae_ret_block (ae_ret_then ?_))))
    refine ae_ret hB (Bv false) (by kernel_rfl) (.inl (by first | rfl | (refine congrArg Bv ?_; simp [okStroke', inB, *]; done) | (refine congrArg Bv ?_; simp [okStroke', inB, *]; omega) | (refine congrArg Bv ?_; simp_all [okStroke', inB]; done) | (refine congrArg Bv ?_; simp_all [okStroke', inB]; omega))) rfl (fun _ => trivial)
  ·have hall : allN s.Points.length (okPt s.Points) = true := allN_at (fun j hj => hall0 j (by omega))
   refine aw_reg [(6, .dec false)] [0, 3, 10] [] [.ptr false [slPoint false s.Points], I i, Bv false] [] [¬ (i < (s.Points.length : Int))] (by kernel_rfl) hB ⟨h1, trivial⟩ ?_
   refine ae_then ?_
   refine aw_false rfl ?_
   refine aw_exit ?_
   refine ae_exit_then ?_
   refine ae_exit_then ?_
   refine ae_exit_same ?_
   refine ae_then ?_
   refine aw_seq ?_
   refine aw_reg [(5, .call [(true, I (s.Points.length : Int)), (true, I 1), (true, I 60)] true (Bv (inB (s.Points.length : Int) 1 60)))] [2] [] [Bv (inB (s.Points.length : Int) 1 60)] [] [Con Tryz.prog 46 [I (s.Points.length : Int), I 1, I 60] true (Bv (inB (s.Points.length : Int) 1 60)) ∧ ((I (s.Points.length : Int) : AV) = I (s.Points.length : Int)) ∧ ((I 1 : AV) = I 1) ∧ ((I 60 : AV) = I 60) ∧ True] (by kernel_rfl) hB ⟨⟨(l00In_ok (s.Points.length : Int) 1 60), rfl, rfl, rfl, trivial⟩, trivial⟩ ?_
   refine ae_then ?_
   refine aw_ret ?_
   refine ae_ret hB (Bv (inB (s.Points.length : Int) 1 60)) (by kernel_rfl) (.inl (by first | rfl | (refine congrArg Bv ?_; simp [okStroke', inB, *]; done) | (refine congrArg Bv ?_; simp [okStroke', inB, *]; omega) | (refine congrArg Bv ?_; simp_all [okStroke', inB]; done) | (refine congrArg Bv ?_; simp_all [okStroke', inB]; omega))) rfl (fun _ => trivial)


-- spec.l05Far
theorem l05Far_ok (a : Point) (b : Point) (ha : okP a = true) (hb : okP b = true) : Con Tryz.prog 97 [agPoint a, agPoint b] true (I (farI a b)) := by
  have ha' := okP_iff.1 ha
  have hb' := okP_iff.1 hb
  have hfb := far_bd ha hb
  refine fn_ok (fn := Tryz.f97) (nt := 24) Tryz.func97 rfl rfl rfl rfl (by simp [taggedL, tagged]) fun B hB => ?_
  refine aw_seq ?_
  refine aw_reg [(0, .new 2), (1, .new 3)] [2, 3] [2, 3] [.ref 2 0, .ref 3 0] [some (bxPoint a), some (bxPoint b)] [] (by kernel_rfl) hB trivial ?_
  refine ae_then ?_
  refine aw_seq ?_
  refine aw_reg [] [2, 3, 5] [2, 3] [.ref 2 0, .ref 3 0, I (a.X - b.X)] [some (bxPoint a), some (bxPoint b)] [inR .i64 (a.X - b.X)] (by kernel_rfl) hB ⟨(inR_i64 (by omega) (by omega)), trivial⟩ ?_
  refine ae_then ?_
  refine aw_seq ?_
  refine aw_reg [] [5, 6] [] [I (a.X - b.X), I (a.Y - b.Y)] [] [inR .i64 (a.Y - b.Y)] (by kernel_rfl) hB ⟨(inR_i64 (by omega) (by omega)), trivial⟩ ?_
  refine ae_then ?_
  refine aw_seq ?_
  refine aw_reg [] [4] [] [I (((a.X - b.X) * (a.X - b.X)) + ((a.Y - b.Y) * (a.Y - b.Y)))] [] [inR .i64 ((a.X - b.X) * (a.X - b.X)), inR .i64 ((a.Y - b.Y) * (a.Y - b.Y)), inR .i64 (((a.X - b.X) * (a.X - b.X)) + ((a.Y - b.Y) * (a.Y - b.Y)))] (by kernel_rfl) hB ⟨(inR_i64 (by omega) (by omega)), (inR_i64 (by omega) (by omega)), (inR_i64 (by omega) (by omega)), trivial⟩ ?_
  refine ae_then ?_
  refine aw_ret ?_
  refine ae_ret hB (I (((a.X - b.X) * (a.X - b.X)) + ((a.Y - b.Y) * (a.Y - b.Y)))) (by kernel_rfl) (.inl (by first | rfl | (refine congrArg Bv ?_; simp [*]; done) | (refine congrArg Bv ?_; simp [*]; omega) | (refine congrArg Bv ?_; simp_all []; done) | (refine congrArg Bv ?_; simp_all []; omega))) rfl (fun _ => trivial)


-- spec.l05Root
theorem l05Root_ok (n : Int) (hn : 0 ≤ n ∧ n ≤ 1000000000000000) : Con Tryz.prog 96 [I n] true (I (rootI n)) := by
  refine fn_ok (fn := Tryz.f96) (nt := 23) Tryz.func96 rfl rfl rfl rfl (by simp [taggedL, tagged]) fun B hB => ?_
  refine aw_seq ?_
  refine aw_reg [] [0] [] [I n] [] [] (by kernel_rfl) hB trivial ?_
  refine ae_then ?_
  refine aw_seq ?_
  refine aw_reg [] [0, 3] [] [I n, I 0] [] [] (by kernel_rfl) hB trivial ?_
  refine ae_then ?_
  refine aw_seq ?_
  refine aw_reg [] [0, 3, 4] [] [I n, I 0, I 40000000] [] [] (by kernel_rfl) hB trivial ?_
  refine ae_then ?_
  refine aw_seq ?_
  refine aw_block ?_
  refine aw_loop (fun gn gσ => ∃ (low : Int) (high : Int), gn = ((high : Int) - low).toNat ∧ (0 ≤ low ∧ low ≤ high ∧ high ≤ 40000000) ∧ (low * low ≤ n) ∧ (n < (high + 1) * (high + 1)) ∧ gσ = mkS [(0, I n), (3, I low), (4, I high)] []) (((40000000 : Int) - 0).toNat) ⟨0, 40000000, rfl, (by omega), (by omega), (by omega), rfl⟩ (fun gn gσ hI => ?_)
  obtain ⟨low, high, rfl, hl0, hl1, hl2, rfl⟩ := hI
  have hmm := sq_le (a := (((low + high) + 1) / 2)) (b := 40000000) (by omega) (by omega)
  have hmz := sq_le (a := 0) (b := (((low + high) + 1) / 2)) (by omega) (by omega)
  refine aw_seq ?_
  refine aw_seq ?_
  by_cases h1 : low < high
  ·refine aw_reg [(2, .dec true)] [0, 3, 4, 8] [] [I n, I low, I high, Bv true] [] [low < high] (by kernel_rfl) hB ⟨h1, trivial⟩ ?_
   refine ae_then ?_
   refine aw_true rfl ?_
   refine aw_skip ?_
   refine ae_then ?_
   refine aw_block ?_
   refine aw_seq ?_
   refine aw_reg [(4, .nn)] [0, 3, 4, 5] [] [I n, I low, I high, I (((low + high) + 1) / 2)] [] [inR .i64 (low + high), inR .i64 ((low + high) + 1), (0 : Int) ≤ ((low + high) + 1) ∧ (0 : Int) < 2 ∧ inR .i64 ((low + high) + 1)] (by kernel_rfl) hB ⟨(inR_i64 (by omega) (by omega)), (inR_i64 (by omega) (by omega)), ⟨(by omega), (by omega), (inR_i64 (by omega) (by omega))⟩, trivial⟩ ?_
   refine ae_then ?_
   refine aw_seq ?_
   by_cases h2 : ((((low + high) + 1) / 2) * (((low + high) + 1) / 2)) ≤ n
   ·refine aw_reg [(4, .dec true)] [0, 3, 4, 5, 18] [] [I n, I low, I high, I (((low + high) + 1) / 2), Bv true] [] [inR .i64 ((((low + high) + 1) / 2) * (((low + high) + 1) / 2)), ((((low + high) + 1) / 2) * (((low + high) + 1) / 2)) ≤ n] (by kernel_rfl) hB ⟨(inR_i64 (by omega) (by omega)), h2, trivial⟩ ?_
    refine ae_then ?_
    refine aw_true rfl ?_
    refine aw_reg [] [0, 3, 4] [] [I n, I (((low + high) + 1) / 2), I high] [] [] (by kernel_rfl) hB trivial ?_
    refine ae_block 1 ?_
    exact ae_again _ (by omega) ⟨(((low + high) + 1) / 2), high, rfl, (by omega), (by omega), (by first | omega | (rw [show ∀ x : Int, x - 1 + 1 = x from fun x => by omega]; omega)), rfl⟩
   ·refine aw_reg [(4, .dec false)] [0, 3, 4, 5, 18] [] [I n, I low, I high, I (((low + high) + 1) / 2), Bv false] [] [inR .i64 ((((low + high) + 1) / 2) * (((low + high) + 1) / 2)), ¬ (((((low + high) + 1) / 2) * (((low + high) + 1) / 2)) ≤ n)] (by kernel_rfl) hB ⟨(inR_i64 (by omega) (by omega)), h2, trivial⟩ ?_
    refine ae_then ?_
    refine aw_false rfl ?_
    refine aw_reg [] [0, 3, 4] [] [I n, I low, I ((((low + high) + 1) / 2) - 1)] [] [inR .i64 ((((low + high) + 1) / 2) - 1)] (by kernel_rfl) hB ⟨(inR_i64 (by omega) (by omega)), trivial⟩ ?_
    refine ae_block 1 ?_
    exact ae_again _ (by omega) ⟨low, ((((low + high) + 1) / 2) - 1), rfl, (by omega), (by omega), (by first | omega | (rw [show ∀ x : Int, x - 1 + 1 = x from fun x => by omega]; omega)), rfl⟩
  ·refine aw_reg [(2, .dec false)] [0, 3, 4, 8] [] [I n, I low, I high, Bv false] [] [¬ (low < high)] (by kernel_rfl) hB ⟨h1, trivial⟩ ?_
   refine ae_then ?_
   refine aw_false rfl ?_
   refine aw_exit ?_
   refine ae_exit_then ?_
   refine ae_exit_then ?_
   refine ae_exit_same ?_
   refine ae_then ?_
   refine aw_seq ?_
   refine aw_reg [] [2] [] [I low] [] [] (by kernel_rfl) hB trivial ?_
   refine ae_then ?_
   refine aw_ret ?_
   refine ae_ret hB (I low) (by kernel_rfl) (.inl (by exact congrArg I (Eq.symm (rootI_eq hl0.1 hl1 (by have e : high = low := (by omega); rw [e] at hl2; exact hl2))))) rfl (fun _ => trivial)


-- spec.l05Length
theorem l05Length_ok (a : Point) (b : Point) (ha : okP a = true) (hb : okP b = true) : Con Tryz.prog 74 [agPoint a, agPoint b] true (I (segI a b)) := by
  have ha' := okP_iff.1 ha
  have hb' := okP_iff.1 hb
  have hfb := far_bd ha hb
  have hlb := segI_bd ha hb
  refine fn_ok (fn := Tryz.f74) (nt := 10) Tryz.func74 rfl rfl rfl rfl (by simp [taggedL, tagged]) fun B hB => ?_
  refine aw_seq ?_
  refine aw_reg [(0, .new 2), (1, .new 3)] [2, 3] [2, 3] [.ref 2 0, .ref 3 0] [some (bxPoint a), some (bxPoint b)] [] (by kernel_rfl) hB trivial ?_
  refine ae_then ?_
  refine aw_seq ?_
  refine aw_reg [(2, .call [(true, agPoint a), (true, agPoint b)] true (I (farI a b))), (4, .call [(true, I (256 * (farI a b)))] true (I (rootI (256 * (farI a b)))))] [4] [] [I (rootI (256 * (farI a b)))] [] [Con Tryz.prog 97 [agPoint a, agPoint b] true (I (farI a b)) ∧ ((agPoint a : AV) = agPoint a) ∧ ((agPoint b : AV) = agPoint b) ∧ True, inR .i64 (256 * (farI a b)), Con Tryz.prog 96 [I (256 * (farI a b))] true (I (rootI (256 * (farI a b)))) ∧ ((I (256 * (farI a b)) : AV) = I (256 * (farI a b))) ∧ True] (by kernel_rfl) hB ⟨⟨(l05Far_ok a b ha hb), rfl, rfl, trivial⟩, (inR_i64 (by omega) (by omega)), ⟨(l05Root_ok (256 * (farI a b)) (by omega)), rfl, trivial⟩, trivial⟩ ?_
  refine ae_then ?_
  refine aw_ret ?_
  refine ae_ret hB (I (rootI (256 * (farI a b)))) (by kernel_rfl) (.inl (by first | rfl | (refine congrArg Bv ?_; simp [*]; done) | (refine congrArg Bv ?_; simp [*]; omega) | (refine congrArg Bv ?_; simp_all []; done) | (refine congrArg Bv ?_; simp_all []; omega))) rfl (fun _ => trivial)


-- spec.l05Sum
theorem l05Sum_ok (s : Stroke) (ok : okStroke' s = true) : Con Tryz.prog 70 [.ptr false [slPoint false s.Points]] true (I (sumS s.Points s.Points.length)) := by
  have hln := okS_len ok
  refine fn_ok (fn := Tryz.f70) (nt := 33) Tryz.func70 rfl rfl rfl rfl (by simp [taggedL, tagged, tagPoint]) fun B hB => ?_
  refine aw_lens (x := .ptr false [slPoint false s.Points]) 0 rfl (fun len_s => ?_)
  simp [LenOK, LenL, cPoint, fPoint, slPoint] at len_s
  refine aw_seq ?_
  refine aw_reg [] [0] [] [.ptr false [slPoint false s.Points]] [] [] (by kernel_rfl) hB trivial ?_
  refine ae_then ?_
  refine aw_seq ?_
  refine aw_reg [] [0, 3] [] [.ptr false [slPoint false s.Points], I 0] [] [] (by kernel_rfl) hB trivial ?_
  refine ae_then ?_
  refine aw_seq ?_
  refine aw_seq ?_
  refine aw_reg [] [0, 3, 4] [] [.ptr false [slPoint false s.Points], I 0, I 1] [] [] (by kernel_rfl) hB trivial ?_
  refine ae_then ?_
  refine aw_block ?_
  refine aw_loop (fun gn gσ => ∃ (sum : Int) (i : Int), gn = ((s.Points.length : Int) - i).toNat ∧ (1 ≤ i ∧ i ≤ (s.Points.length : Int)) ∧ (sum = sumS s.Points i.toNat) ∧ (0 ≤ sum ∧ sum ≤ 92659 * (i - 1)) ∧ gσ = mkS [(0, .ptr false [slPoint false s.Points]), (3, I sum), (4, I i)] []) (((s.Points.length : Int) - 1).toNat) ⟨0, 1, rfl, (by omega), (by rfl), (by omega), rfl⟩ (fun gn gσ hI => ?_)
  obtain ⟨sum, i, rfl, hi0, hs0, hs1, rfl⟩ := hI
  refine aw_seq ?_
  refine aw_seq ?_
  by_cases h1 : i < (s.Points.length : Int)
  ·have hi : i.toNat < s.Points.length := by omega
   have hi2 : (i - 1).toNat < s.Points.length := by omega
   have hp1 := okS_at ok hi2
   have hp2 := okS_at ok hi
   have hlb := segI_bd hp1 hp2
   refine aw_reg [(6, .dec true)] [0, 3, 4, 11] [] [.ptr false [slPoint false s.Points], I sum, I i, Bv true] [] [i < (s.Points.length : Int)] (by kernel_rfl) hB ⟨h1, trivial⟩ ?_
   refine ae_then ?_
   refine aw_true rfl ?_
   refine aw_skip ?_
   refine ae_then ?_
   refine aw_seq ?_
   refine aw_block ?_
   refine aw_reg [(16, .call [(true, agPoint (at_ s.Points ((i - 1).toNat))), (true, agPoint (at_ s.Points i.toNat))] true (I (segI (at_ s.Points ((i - 1).toNat)) (at_ s.Points i.toNat))))] [0, 3, 4] [] [.ptr false [slPoint false s.Points], I (sum + (segI (at_ s.Points ((i - 1).toNat)) (at_ s.Points i.toNat))), I i] [] [inR .i64 (i - 1), (0 : Int) ≤ (i - 1) ∧ (i - 1) < (s.Points.length : Int), (0 : Int) ≤ i ∧ i < (s.Points.length : Int), Con Tryz.prog 74 [agPoint (at_ s.Points ((i - 1).toNat)), agPoint (at_ s.Points i.toNat)] true (I (segI (at_ s.Points ((i - 1).toNat)) (at_ s.Points i.toNat))) ∧ ((agPoint (at_ s.Points ((i - 1).toNat)) : AV) = agPoint (at_ s.Points ((i - 1).toNat))) ∧ ((agPoint (at_ s.Points i.toNat) : AV) = agPoint (at_ s.Points i.toNat)) ∧ True, inR .i64 (sum + (segI (at_ s.Points ((i - 1).toNat)) (at_ s.Points i.toNat)))] (by kernel_rfl) hB ⟨(inR_i64 (by omega) (by omega)), ⟨(by omega), (by omega)⟩, ⟨(by omega), (by omega)⟩, ⟨(l05Length_ok (at_ s.Points ((i - 1).toNat)) (at_ s.Points i.toNat) hp1 hp2), rfl, rfl, trivial⟩, (inR_i64 (by omega) (by omega)), trivial⟩ ?_
   refine ae_block 1 ?_
   refine ae_then ?_
   refine aw_reg [] [0, 3, 4] [] [.ptr false [slPoint false s.Points], I (sum + (segI (at_ s.Points ((i - 1).toNat)) (at_ s.Points i.toNat))), I (i + 1)] [] [inR .i64 (i + 1)] (by kernel_rfl) hB ⟨(inR_i64 (by omega) (by omega)), trivial⟩ ?_
   exact ae_again _ (by omega) ⟨(sum + (segI (at_ s.Points ((i - 1).toNat)) (at_ s.Points i.toNat))), (i + 1), rfl, (by omega), (by rw [sumS_succ hi0.1, ← hs0]), (by omega), rfl⟩
  ·have hie : i.toNat = s.Points.length := by omega
   rw [hie] at hs0
   refine aw_reg [(6, .dec false)] [0, 3, 4, 11] [] [.ptr false [slPoint false s.Points], I sum, I i, Bv false] [] [¬ (i < (s.Points.length : Int))] (by kernel_rfl) hB ⟨h1, trivial⟩ ?_
   refine ae_then ?_
   refine aw_false rfl ?_
   refine aw_exit ?_
   refine ae_exit_then ?_
   refine ae_exit_then ?_
   refine ae_exit_same ?_
   refine ae_then ?_
   refine aw_seq ?_
   refine aw_reg [] [2] [] [I sum] [] [] (by kernel_rfl) hB trivial ?_
   refine ae_then ?_
   refine aw_ret ?_
   refine ae_ret hB (I sum) (by kernel_rfl) (.inl (by rw [hs0])) rfl (fun _ => trivial)


-- spec.l23Reversals
theorem l23Reversals_ok (s : Stroke) (ok : okStroke' s = true) : Con Tryz.prog 38 [.ptr false [slPoint false s.Points]] true (I ((revS s.Points s.Points.length).1)) := by
  have hln := okS_len ok
  refine fn_ok (fn := Tryz.f38) (nt := 49) Tryz.func38 rfl rfl rfl rfl (by simp [taggedL, tagged, tagPoint]) fun B hB => ?_
  refine aw_lens (x := .ptr false [slPoint false s.Points]) 0 rfl (fun len_s => ?_)
  simp [LenOK, LenL, cPoint, fPoint, slPoint] at len_s
  refine aw_seq ?_
  refine aw_reg [] [0] [] [.ptr false [slPoint false s.Points]] [] [] (by kernel_rfl) hB trivial ?_
  refine ae_then ?_
  refine aw_seq ?_
  refine aw_reg [] [0, 3] [] [.ptr false [slPoint false s.Points], I 0] [] [] (by kernel_rfl) hB trivial ?_
  refine ae_then ?_
  refine aw_seq ?_
  refine aw_reg [] [0, 3, 4] [] [.ptr false [slPoint false s.Points], I 0, I 0] [] [] (by kernel_rfl) hB trivial ?_
  refine ae_then ?_
  refine aw_seq ?_
  refine aw_seq ?_
  refine aw_reg [] [0, 3, 4, 5] [] [.ptr false [slPoint false s.Points], I 0, I 0, I 1] [] [] (by kernel_rfl) hB trivial ?_
  refine ae_then ?_
  refine aw_block ?_
  refine aw_loop (fun gn gσ => ∃ (n : Int) (last : Int) (i : Int), gn = ((s.Points.length : Int) - i).toNat ∧ (1 ≤ i ∧ i ≤ (s.Points.length : Int)) ∧ (n = (revS s.Points i.toNat).1) ∧ (last = (revS s.Points i.toNat).2) ∧ (0 ≤ n ∧ n ≤ i) ∧ gσ = mkS [(0, .ptr false [slPoint false s.Points]), (3, I n), (4, I last), (5, I i)] []) (((s.Points.length : Int) - 1).toNat) ⟨0, 0, 1, rfl, (by omega), (by rfl), (by rfl), (by omega), rfl⟩ (fun gn gσ hI => ?_)
  obtain ⟨n, last, i, rfl, hi0, hr1, hr2, hr3, rfl⟩ := hI
  refine aw_seq ?_
  refine aw_seq ?_
  by_cases h1 : i < (s.Points.length : Int)
  ·have hi : i.toNat < s.Points.length := by omega
   have hi2 : (i - 1).toNat < s.Points.length := by omega
   have hp1 := okP_iff.1 (okS_at ok hi2)
   have hp2 := okP_iff.1 (okS_at ok hi)
   refine aw_reg [(6, .dec true)] [0, 3, 4, 5, 13] [] [.ptr false [slPoint false s.Points], I n, I last, I i, Bv true] [] [i < (s.Points.length : Int)] (by kernel_rfl) hB ⟨h1, trivial⟩ ?_
   refine ae_then ?_
   refine aw_true rfl ?_
   refine aw_skip ?_
   refine ae_then ?_
   refine aw_seq ?_
   refine aw_block ?_
   refine aw_seq ?_
   refine aw_reg [] [0, 3, 4, 5, 6] [] [.ptr false [slPoint false s.Points], I n, I last, I i, I (((at_ s.Points i.toNat).X) - ((at_ s.Points ((i - 1).toNat)).X))] [] [(0 : Int) ≤ i ∧ i < (s.Points.length : Int), inR .i64 (i - 1), (0 : Int) ≤ (i - 1) ∧ (i - 1) < (s.Points.length : Int), inR .i64 (((at_ s.Points i.toNat).X) - ((at_ s.Points ((i - 1).toNat)).X))] (by kernel_rfl) hB ⟨⟨(by omega), (by omega)⟩, (inR_i64 (by omega) (by omega)), ⟨(by omega), (by omega)⟩, (inR_i64 (by omega) (by omega)), trivial⟩ ?_
   refine ae_then ?_
   refine aw_seq ?_
   refine aw_seq ?_
   by_cases h2 : (((at_ s.Points i.toNat).X) - ((at_ s.Points ((i - 1).toNat)).X)) = 0
   ·refine aw_reg [(1, .dec true)] [0, 3, 4, 5, 6, 35] [] [.ptr false [slPoint false s.Points], I n, I last, I i, I (((at_ s.Points i.toNat).X) - ((at_ s.Points ((i - 1).toNat)).X)), Bv true] [] [(((at_ s.Points i.toNat).X) - ((at_ s.Points ((i - 1).toNat)).X)) = 0] (by kernel_rfl) hB ⟨h2, trivial⟩ ?_
    refine ae_then ?_
    refine aw_true rfl ?_
    refine aw_exit ?_
    refine ae_exit_then ?_
    refine ae_exit_same ?_
    refine ae_then ?_
    refine aw_reg [] [0, 3, 4, 5] [] [.ptr false [slPoint false s.Points], I n, I last, I (i + 1)] [] [inR .i64 (i + 1)] (by kernel_rfl) hB ⟨(inR_i64 (by omega) (by omega)), trivial⟩ ?_
    exact ae_again _ (by omega) ⟨n, last, (i + 1), rfl, (by omega), (by rw [revS_1 hi0.1, ← hr1, ← hr2]; omega), (by rw [revS_2 hi0.1, ← hr2]; omega), (by omega), rfl⟩
   ·refine aw_reg [(1, .dec false)] [0, 3, 4, 5, 6, 35] [] [.ptr false [slPoint false s.Points], I n, I last, I i, I (((at_ s.Points i.toNat).X) - ((at_ s.Points ((i - 1).toNat)).X)), Bv false] [] [¬ ((((at_ s.Points i.toNat).X) - ((at_ s.Points ((i - 1).toNat)).X)) = 0)] (by kernel_rfl) hB ⟨h2, trivial⟩ ?_
    refine ae_then ?_
    refine aw_false rfl ?_
    refine aw_skip ?_
    refine ae_then ?_
    refine aw_seq ?_
    refine aw_seq ?_
    by_cases h3 : last = 0
    ·refine aw_reg [(1, .dec false)] [0, 3, 5, 6, 44] [] [.ptr false [slPoint false s.Points], I n, I i, I (((at_ s.Points i.toNat).X) - ((at_ s.Points ((i - 1).toNat)).X)), Bv false] [] [¬ (last ≠ 0)] (by kernel_rfl) hB ⟨(fun hq => hq h3), trivial⟩ ?_
     refine ae_then ?_
     refine aw_false rfl ?_
     refine aw_skip ?_
     refine ae_then ?_
     refine aw_reg [] [0, 3, 4, 5] [] [.ptr false [slPoint false s.Points], I n, I (((at_ s.Points i.toNat).X) - ((at_ s.Points ((i - 1).toNat)).X)), I i] [] [] (by kernel_rfl) hB trivial ?_
     refine ae_block 1 ?_
     refine ae_then ?_
     refine aw_reg [] [0, 3, 4, 5] [] [.ptr false [slPoint false s.Points], I n, I (((at_ s.Points i.toNat).X) - ((at_ s.Points ((i - 1).toNat)).X)), I (i + 1)] [] [inR .i64 (i + 1)] (by kernel_rfl) hB ⟨(inR_i64 (by omega) (by omega)), trivial⟩ ?_
     exact ae_again _ (by omega) ⟨n, (((at_ s.Points i.toNat).X) - ((at_ s.Points ((i - 1).toNat)).X)), (i + 1), rfl, (by omega), (by rw [revS_1 hi0.1, ← hr1, ← hr2]; omega), (by rw [revS_2 hi0.1, ← hr2]; omega), (by omega), rfl⟩
    ·by_cases h4 : 0 < (((at_ s.Points i.toNat).X) - ((at_ s.Points ((i - 1).toNat)).X))
     ·by_cases h5 : 0 < last
      ·refine aw_reg [(1, .dec true), (4, .dec true), (6, .dec true)] [0, 3, 5, 6, 44] [] [.ptr false [slPoint false s.Points], I n, I i, I (((at_ s.Points i.toNat).X) - ((at_ s.Points ((i - 1).toNat)).X)), Bv false] [] [last ≠ 0, 0 < (((at_ s.Points i.toNat).X) - ((at_ s.Points ((i - 1).toNat)).X)), 0 < last] (by kernel_rfl) hB ⟨h3, h4, h5, trivial⟩ ?_
       refine ae_then ?_
       refine aw_false rfl ?_
       refine aw_skip ?_
       refine ae_then ?_
       refine aw_reg [] [0, 3, 4, 5] [] [.ptr false [slPoint false s.Points], I n, I (((at_ s.Points i.toNat).X) - ((at_ s.Points ((i - 1).toNat)).X)), I i] [] [] (by kernel_rfl) hB trivial ?_
       refine ae_block 1 ?_
       refine ae_then ?_
       refine aw_reg [] [0, 3, 4, 5] [] [.ptr false [slPoint false s.Points], I n, I (((at_ s.Points i.toNat).X) - ((at_ s.Points ((i - 1).toNat)).X)), I (i + 1)] [] [inR .i64 (i + 1)] (by kernel_rfl) hB ⟨(inR_i64 (by omega) (by omega)), trivial⟩ ?_
       exact ae_again _ (by omega) ⟨n, (((at_ s.Points i.toNat).X) - ((at_ s.Points ((i - 1).toNat)).X)), (i + 1), rfl, (by omega), (by rw [revS_1 hi0.1, ← hr1, ← hr2]; omega), (by rw [revS_2 hi0.1, ← hr2]; omega), (by omega), rfl⟩
      ·refine aw_reg [(1, .dec true), (4, .dec true), (6, .dec false)] [0, 3, 5, 6, 44] [] [.ptr false [slPoint false s.Points], I n, I i, I (((at_ s.Points i.toNat).X) - ((at_ s.Points ((i - 1).toNat)).X)), Bv true] [] [last ≠ 0, 0 < (((at_ s.Points i.toNat).X) - ((at_ s.Points ((i - 1).toNat)).X)), ¬ (0 < last)] (by kernel_rfl) hB ⟨h3, h4, h5, trivial⟩ ?_
       refine ae_then ?_
       refine aw_true rfl ?_
       refine aw_reg [] [0, 3, 5, 6] [] [.ptr false [slPoint false s.Points], I (n + 1), I i, I (((at_ s.Points i.toNat).X) - ((at_ s.Points ((i - 1).toNat)).X))] [] [inR .i64 (n + 1)] (by kernel_rfl) hB ⟨(inR_i64 (by omega) (by omega)), trivial⟩ ?_
       refine ae_then ?_
       refine aw_reg [] [0, 3, 4, 5] [] [.ptr false [slPoint false s.Points], I (n + 1), I (((at_ s.Points i.toNat).X) - ((at_ s.Points ((i - 1).toNat)).X)), I i] [] [] (by kernel_rfl) hB trivial ?_
       refine ae_block 1 ?_
       refine ae_then ?_
       refine aw_reg [] [0, 3, 4, 5] [] [.ptr false [slPoint false s.Points], I (n + 1), I (((at_ s.Points i.toNat).X) - ((at_ s.Points ((i - 1).toNat)).X)), I (i + 1)] [] [inR .i64 (i + 1)] (by kernel_rfl) hB ⟨(inR_i64 (by omega) (by omega)), trivial⟩ ?_
       exact ae_again _ (by omega) ⟨(n + 1), (((at_ s.Points i.toNat).X) - ((at_ s.Points ((i - 1).toNat)).X)), (i + 1), rfl, (by omega), (by rw [revS_1 hi0.1, ← hr1, ← hr2]; omega), (by rw [revS_2 hi0.1, ← hr2]; omega), (by omega), rfl⟩
     ·by_cases h6 : 0 < last
      ·refine aw_reg [(1, .dec true), (4, .dec false), (6, .dec true)] [0, 3, 5, 6, 44] [] [.ptr false [slPoint false s.Points], I n, I i, I (((at_ s.Points i.toNat).X) - ((at_ s.Points ((i - 1).toNat)).X)), Bv true] [] [last ≠ 0, ¬ (0 < (((at_ s.Points i.toNat).X) - ((at_ s.Points ((i - 1).toNat)).X))), 0 < last] (by kernel_rfl) hB ⟨h3, h4, h6, trivial⟩ ?_
       refine ae_then ?_
       refine aw_true rfl ?_
       refine aw_reg [] [0, 3, 5, 6] [] [.ptr false [slPoint false s.Points], I (n + 1), I i, I (((at_ s.Points i.toNat).X) - ((at_ s.Points ((i - 1).toNat)).X))] [] [inR .i64 (n + 1)] (by kernel_rfl) hB ⟨(inR_i64 (by omega) (by omega)), trivial⟩ ?_
       refine ae_then ?_
       refine aw_reg [] [0, 3, 4, 5] [] [.ptr false [slPoint false s.Points], I (n + 1), I (((at_ s.Points i.toNat).X) - ((at_ s.Points ((i - 1).toNat)).X)), I i] [] [] (by kernel_rfl) hB trivial ?_
       refine ae_block 1 ?_
       refine ae_then ?_
       refine aw_reg [] [0, 3, 4, 5] [] [.ptr false [slPoint false s.Points], I (n + 1), I (((at_ s.Points i.toNat).X) - ((at_ s.Points ((i - 1).toNat)).X)), I (i + 1)] [] [inR .i64 (i + 1)] (by kernel_rfl) hB ⟨(inR_i64 (by omega) (by omega)), trivial⟩ ?_
       exact ae_again _ (by omega) ⟨(n + 1), (((at_ s.Points i.toNat).X) - ((at_ s.Points ((i - 1).toNat)).X)), (i + 1), rfl, (by omega), (by rw [revS_1 hi0.1, ← hr1, ← hr2]; omega), (by rw [revS_2 hi0.1, ← hr2]; omega), (by omega), rfl⟩
      ·refine aw_reg [(1, .dec true), (4, .dec false), (6, .dec false)] [0, 3, 5, 6, 44] [] [.ptr false [slPoint false s.Points], I n, I i, I (((at_ s.Points i.toNat).X) - ((at_ s.Points ((i - 1).toNat)).X)), Bv false] [] [last ≠ 0, ¬ (0 < (((at_ s.Points i.toNat).X) - ((at_ s.Points ((i - 1).toNat)).X))), ¬ (0 < last)] (by kernel_rfl) hB ⟨h3, h4, h6, trivial⟩ ?_
       refine ae_then ?_
       refine aw_false rfl ?_
       refine aw_skip ?_
       refine ae_then ?_
       refine aw_reg [] [0, 3, 4, 5] [] [.ptr false [slPoint false s.Points], I n, I (((at_ s.Points i.toNat).X) - ((at_ s.Points ((i - 1).toNat)).X)), I i] [] [] (by kernel_rfl) hB trivial ?_
       refine ae_block 1 ?_
       refine ae_then ?_
       refine aw_reg [] [0, 3, 4, 5] [] [.ptr false [slPoint false s.Points], I n, I (((at_ s.Points i.toNat).X) - ((at_ s.Points ((i - 1).toNat)).X)), I (i + 1)] [] [inR .i64 (i + 1)] (by kernel_rfl) hB ⟨(inR_i64 (by omega) (by omega)), trivial⟩ ?_
       exact ae_again _ (by omega) ⟨n, (((at_ s.Points i.toNat).X) - ((at_ s.Points ((i - 1).toNat)).X)), (i + 1), rfl, (by omega), (by rw [revS_1 hi0.1, ← hr1, ← hr2]; omega), (by rw [revS_2 hi0.1, ← hr2]; omega), (by omega), rfl⟩
  ·have hie : i.toNat = s.Points.length := by omega
   rw [hie] at hr1
   refine aw_reg [(6, .dec false)] [0, 3, 4, 5, 13] [] [.ptr false [slPoint false s.Points], I n, I last, I i, Bv false] [] [¬ (i < (s.Points.length : Int))] (by kernel_rfl) hB ⟨h1, trivial⟩ ?_
   refine ae_then ?_
   refine aw_false rfl ?_
   refine aw_exit ?_
   refine ae_exit_then ?_
   refine ae_exit_then ?_
   refine ae_exit_same ?_
   refine ae_then ?_
   refine aw_seq ?_
   refine aw_reg [] [2] [] [I n] [] [] (by kernel_rfl) hB trivial ?_
   refine ae_then ?_
   refine aw_ret ?_
   refine ae_ret hB (I n) (by kernel_rfl) (.inl (by rw [hr1])) rfl (fun _ => trivial)


-- spec.l05Size
theorem l05Size_ok (n : Int) (hn : -9223372036854775807 ≤ n ∧ n ≤ 9223372036854775807) : Con Tryz.prog 73 [I n] true (I (n.natAbs : Int)) := by
  refine fn_ok (fn := Tryz.f73) (nt := 8) Tryz.func73 rfl rfl rfl rfl (by simp [taggedL, tagged]) fun B hB => ?_
  refine aw_seq ?_
  refine aw_reg [] [0] [] [I n] [] [] (by kernel_rfl) hB trivial ?_
  refine ae_then ?_
  refine aw_seq ?_
  refine aw_seq ?_
  by_cases h1 : n < 0
  ·refine aw_reg [(1, .dec true)] [0, 4] [] [I n, Bv true] [] [n < 0] (by kernel_rfl) hB ⟨h1, trivial⟩ ?_
   refine ae_then ?_
   refine aw_true rfl ?_
   refine aw_seq ?_
   refine aw_reg [] [2] [] [I (-n)] [] [inR .i64 (-n)] (by kernel_rfl) hB ⟨(inR_i64 (by omega) (by omega)), trivial⟩ ?_
   refine ae_then ?_
   refine aw_ret ?_
   refine ae_ret_then ?_
   refine ae_ret hB (I (-n)) (by kernel_rfl) (.inl (by refine congrArg I ?_; omega)) rfl (fun _ => trivial)
  ·refine aw_reg [(1, .dec false)] [0, 4] [] [I n, Bv false] [] [¬ (n < 0)] (by kernel_rfl) hB ⟨h1, trivial⟩ ?_
   refine ae_then ?_
   refine aw_false rfl ?_
   refine aw_skip ?_
   refine ae_then ?_
   refine aw_seq ?_
   refine aw_reg [] [2] [] [I n] [] [] (by kernel_rfl) hB trivial ?_
   refine ae_then ?_
   refine aw_ret ?_
   refine ae_ret hB (I n) (by kernel_rfl) (.inl (by refine congrArg I ?_; omega)) rfl (fun _ => trivial)


-- spec.l05Sector
theorem l05Sector_ok (dx : Int) (dy : Int) (hd : (-4095 ≤ dx ∧ dx ≤ 4095) ∧ -4095 ≤ dy ∧ dy ≤ 4095) : Con Tryz.prog 95 [I dx, I dy] true (I (dirI dx dy)) := by
  have hx2 := two_sq (x := (dx.natAbs : Int)) (by omega) (by omega)
  have hy2 := two_sq (x := (dy.natAbs : Int)) (by omega) (by omega)
  have hs2 := sq_bd (x := (dx.natAbs : Int) + (dy.natAbs : Int)) (B := 8190) (by omega) (by omega)
  have hz := @dir_zero dx dy
  refine fn_ok (fn := Tryz.f95) (nt := 54) Tryz.func95 rfl rfl rfl rfl (by simp [taggedL, tagged]) fun B hB => ?_
  refine aw_seq ?_
  refine aw_reg [] [0, 1] [] [I dx, I dy] [] [] (by kernel_rfl) hB trivial ?_
  refine ae_then ?_
  refine aw_seq ?_
  refine aw_reg [(1, .call [(true, I dx)] true (I (dx.natAbs : Int)))] [0, 1, 5] [] [I dx, I dy, I (dx.natAbs : Int)] [] [Con Tryz.prog 73 [I dx] true (I (dx.natAbs : Int)) ∧ ((I dx : AV) = I dx) ∧ True] (by kernel_rfl) hB ⟨⟨(l05Size_ok dx (by omega)), rfl, trivial⟩, trivial⟩ ?_
  refine ae_then ?_
  refine aw_seq ?_
  refine aw_reg [(1, .call [(true, I dy)] true (I (dy.natAbs : Int)))] [0, 1, 5, 6] [] [I dx, I dy, I (dx.natAbs : Int), I (dy.natAbs : Int)] [] [Con Tryz.prog 73 [I dy] true (I (dy.natAbs : Int)) ∧ ((I dy : AV) = I dy) ∧ True] (by kernel_rfl) hB ⟨⟨(l05Size_ok dy (by omega)), rfl, trivial⟩, trivial⟩ ?_
  refine ae_then ?_
  refine aw_seq ?_
  refine aw_reg [] [0, 1, 5, 6, 7] [] [I dx, I dy, I (dx.natAbs : Int), I (dy.natAbs : Int), I (((dx.natAbs : Int) + (dy.natAbs : Int)) * ((dx.natAbs : Int) + (dy.natAbs : Int)))] [] [inR .i64 ((dx.natAbs : Int) + (dy.natAbs : Int)), inR .i64 ((dx.natAbs : Int) + (dy.natAbs : Int)), inR .i64 (((dx.natAbs : Int) + (dy.natAbs : Int)) * ((dx.natAbs : Int) + (dy.natAbs : Int)))] (by kernel_rfl) hB ⟨(inR_i64 (by omega) (by omega)), (inR_i64 (by omega) (by omega)), (inR_i64 (by omega) (by omega)), trivial⟩ ?_
  refine ae_then ?_
  refine aw_seq ?_
  refine aw_block ?_
  refine aw_seq ?_
  by_cases h1 : (((dx.natAbs : Int) + (dy.natAbs : Int)) * ((dx.natAbs : Int) + (dy.natAbs : Int))) ≤ ((2 * (dx.natAbs : Int)) * (dx.natAbs : Int))
  ·refine aw_reg [(5, .dec true)] [0, 1, 6, 7, 19] [] [I dx, I dy, I (dy.natAbs : Int), I (((dx.natAbs : Int) + (dy.natAbs : Int)) * ((dx.natAbs : Int) + (dy.natAbs : Int))), Bv true] [] [inR .i64 (2 * (dx.natAbs : Int)), inR .i64 ((2 * (dx.natAbs : Int)) * (dx.natAbs : Int)), (((dx.natAbs : Int) + (dy.natAbs : Int)) * ((dx.natAbs : Int) + (dy.natAbs : Int))) ≤ ((2 * (dx.natAbs : Int)) * (dx.natAbs : Int))] (by kernel_rfl) hB ⟨(inR_i64 (by omega) (by omega)), (inR_i64 (by omega) (by omega)), h1, trivial⟩ ?_
   refine ae_then ?_
   refine aw_true rfl ?_
   refine aw_seq ?_
   refine aw_seq ?_
   by_cases h2 : 0 < dx
   ·refine aw_reg [(1, .dec true)] [27] [] [Bv true] [] [0 < dx] (by kernel_rfl) hB ⟨h2, trivial⟩ ?_
    refine ae_then ?_
    refine aw_true rfl ?_
    refine aw_seq ?_
    refine aw_reg [] [4] [] [I 0] [] [] (by kernel_rfl) hB trivial ?_
    refine ae_then ?_
    refine aw_ret ?_
    refine ae_ret_then (ae_ret_block (ae_ret_then ?_))
    refine ae_ret hB (I 0) (by kernel_rfl) (.inl (by refine congrArg I ?_; unfold dirI; (repeat' split) <;> first | rfl | omega)) rfl (fun _ => trivial)
   ·refine aw_reg [(1, .dec false)] [27] [] [Bv false] [] [¬ (0 < dx)] (by kernel_rfl) hB ⟨h2, trivial⟩ ?_
    refine ae_then ?_
    refine aw_false rfl ?_
    refine aw_skip ?_
    refine ae_then ?_
    refine aw_seq ?_
    refine aw_reg [] [4] [] [I 4] [] [] (by kernel_rfl) hB trivial ?_
    refine ae_then ?_
    refine aw_ret ?_
    refine ae_ret_block (ae_ret_then ?_)
    refine ae_ret hB (I 4) (by kernel_rfl) (.inl (by refine congrArg I ?_; unfold dirI; (repeat' split) <;> first | rfl | omega)) rfl (fun _ => trivial)
  ·refine aw_reg [(5, .dec false)] [0, 1, 6, 7, 19] [] [I dx, I dy, I (dy.natAbs : Int), I (((dx.natAbs : Int) + (dy.natAbs : Int)) * ((dx.natAbs : Int) + (dy.natAbs : Int))), Bv false] [] [inR .i64 (2 * (dx.natAbs : Int)), inR .i64 ((2 * (dx.natAbs : Int)) * (dx.natAbs : Int)), ¬ ((((dx.natAbs : Int) + (dy.natAbs : Int)) * ((dx.natAbs : Int) + (dy.natAbs : Int))) ≤ ((2 * (dx.natAbs : Int)) * (dx.natAbs : Int)))] (by kernel_rfl) hB ⟨(inR_i64 (by omega) (by omega)), (inR_i64 (by omega) (by omega)), h1, trivial⟩ ?_
   refine ae_then ?_
   refine aw_false rfl ?_
   refine aw_seq ?_
   by_cases h3 : (((dx.natAbs : Int) + (dy.natAbs : Int)) * ((dx.natAbs : Int) + (dy.natAbs : Int))) ≤ ((2 * (dy.natAbs : Int)) * (dy.natAbs : Int))
   ·refine aw_reg [(5, .dec true)] [0, 1, 28] [] [I dx, I dy, Bv true] [] [inR .i64 (2 * (dy.natAbs : Int)), inR .i64 ((2 * (dy.natAbs : Int)) * (dy.natAbs : Int)), (((dx.natAbs : Int) + (dy.natAbs : Int)) * ((dx.natAbs : Int) + (dy.natAbs : Int))) ≤ ((2 * (dy.natAbs : Int)) * (dy.natAbs : Int))] (by kernel_rfl) hB ⟨(inR_i64 (by omega) (by omega)), (inR_i64 (by omega) (by omega)), h3, trivial⟩ ?_
    refine ae_then ?_
    refine aw_true rfl ?_
    refine aw_seq ?_
    refine aw_seq ?_
    by_cases h4 : 0 < dy
    ·refine aw_reg [(1, .dec true)] [36] [] [Bv true] [] [0 < dy] (by kernel_rfl) hB ⟨h4, trivial⟩ ?_
     refine ae_then ?_
     refine aw_true rfl ?_
     refine aw_seq ?_
     refine aw_reg [] [4] [] [I 2] [] [] (by kernel_rfl) hB trivial ?_
     refine ae_then ?_
     refine aw_ret ?_
     refine ae_ret_then (ae_ret_block (ae_ret_then ?_))
     refine ae_ret hB (I 2) (by kernel_rfl) (.inl (by refine congrArg I ?_; unfold dirI; (repeat' split) <;> first | rfl | omega)) rfl (fun _ => trivial)
    ·refine aw_reg [(1, .dec false)] [36] [] [Bv false] [] [¬ (0 < dy)] (by kernel_rfl) hB ⟨h4, trivial⟩ ?_
     refine ae_then ?_
     refine aw_false rfl ?_
     refine aw_skip ?_
     refine ae_then ?_
     refine aw_seq ?_
     refine aw_reg [] [4] [] [I 6] [] [] (by kernel_rfl) hB trivial ?_
     refine ae_then ?_
     refine aw_ret ?_
     refine ae_ret_block (ae_ret_then ?_)
     refine ae_ret hB (I 6) (by kernel_rfl) (.inl (by refine congrArg I ?_; unfold dirI; (repeat' split) <;> first | rfl | omega)) rfl (fun _ => trivial)
   ·refine aw_reg [(5, .dec false)] [0, 1, 28] [] [I dx, I dy, Bv false] [] [inR .i64 (2 * (dy.natAbs : Int)), inR .i64 ((2 * (dy.natAbs : Int)) * (dy.natAbs : Int)), ¬ ((((dx.natAbs : Int) + (dy.natAbs : Int)) * ((dx.natAbs : Int) + (dy.natAbs : Int))) ≤ ((2 * (dy.natAbs : Int)) * (dy.natAbs : Int)))] (by kernel_rfl) hB ⟨(inR_i64 (by omega) (by omega)), (inR_i64 (by omega) (by omega)), h3, trivial⟩ ?_
    refine ae_then ?_
    refine aw_false rfl ?_
    refine aw_seq ?_
    by_cases h5 : 0 < dx
    ·by_cases h6 : 0 < dy
     ·refine aw_reg [(1, .dec true), (4, .dec true)] [0, 1, 37] [] [I dx, I dy, Bv true] [] [0 < dx, 0 < dy] (by kernel_rfl) hB ⟨h5, h6, trivial⟩ ?_
      refine ae_then ?_
      refine aw_true rfl ?_
      refine aw_seq ?_
      refine aw_reg [] [4] [] [I 1] [] [] (by kernel_rfl) hB trivial ?_
      refine ae_then ?_
      refine aw_ret ?_
      refine ae_ret_block (ae_ret_then ?_)
      refine ae_ret hB (I 1) (by kernel_rfl) (.inl (by refine congrArg I ?_; unfold dirI; (repeat' split) <;> first | rfl | omega)) rfl (fun _ => trivial)
     ·refine aw_reg [(1, .dec true), (4, .dec false)] [0, 1, 37] [] [I dx, I dy, Bv false] [] [0 < dx, ¬ (0 < dy)] (by kernel_rfl) hB ⟨h5, h6, trivial⟩ ?_
      refine ae_then ?_
      refine aw_false rfl ?_
      refine aw_seq ?_
      by_cases h7 : dx < 0
      ·refine aw_reg [(1, .dec true), (4, .dec false)] [0, 44] [] [I dx, Bv false] [] [dx < 0, ¬ (0 < dy)] (by kernel_rfl) hB ⟨h7, h6, trivial⟩ ?_
       refine ae_then ?_
       refine aw_false rfl ?_
       refine aw_seq ?_
       refine aw_reg [(1, .dec true)] [51] [] [Bv true] [] [dx < 0] (by kernel_rfl) hB ⟨h7, trivial⟩ ?_
       refine ae_then ?_
       refine aw_true rfl ?_
       refine aw_seq ?_
       refine aw_reg [] [4] [] [I 5] [] [] (by kernel_rfl) hB trivial ?_
       refine ae_then ?_
       refine aw_ret ?_
       refine ae_ret_block (ae_ret_then ?_)
       refine ae_ret hB (I 5) (by kernel_rfl) (.inl (by refine congrArg I ?_; unfold dirI; (repeat' split) <;> first | rfl | omega)) rfl (fun _ => trivial)
      ·refine aw_reg [(1, .dec false)] [0, 44] [] [I dx, Bv false] [] [¬ (dx < 0)] (by kernel_rfl) hB ⟨h7, trivial⟩ ?_
       refine ae_then ?_
       refine aw_false rfl ?_
       refine aw_seq ?_
       refine aw_reg [(1, .dec false)] [51] [] [Bv false] [] [¬ (dx < 0)] (by kernel_rfl) hB ⟨h7, trivial⟩ ?_
       refine ae_then ?_
       refine aw_false rfl ?_
       refine aw_skip ?_
       refine ae_block 0 ?_
       refine ae_then ?_
       refine aw_seq ?_
       refine aw_reg [] [4] [] [I 7] [] [] (by kernel_rfl) hB trivial ?_
       refine ae_then ?_
       refine aw_ret ?_
       refine ae_ret hB (I 7) (by kernel_rfl) (.inl (by refine congrArg I ?_; unfold dirI; (repeat' split) <;> first | rfl | omega)) rfl (fun _ => trivial)
    ·refine aw_reg [(1, .dec false)] [0, 1, 37] [] [I dx, I dy, Bv false] [] [¬ (0 < dx)] (by kernel_rfl) hB ⟨h5, trivial⟩ ?_
     refine ae_then ?_
     refine aw_false rfl ?_
     refine aw_seq ?_
     by_cases h8 : dx < 0
     ·by_cases h9 : 0 < dy
      ·refine aw_reg [(1, .dec true), (4, .dec true)] [0, 44] [] [I dx, Bv true] [] [dx < 0, 0 < dy] (by kernel_rfl) hB ⟨h8, h9, trivial⟩ ?_
       refine ae_then ?_
       refine aw_true rfl ?_
       refine aw_seq ?_
       refine aw_reg [] [4] [] [I 3] [] [] (by kernel_rfl) hB trivial ?_
       refine ae_then ?_
       refine aw_ret ?_
       refine ae_ret_block (ae_ret_then ?_)
       refine ae_ret hB (I 3) (by kernel_rfl) (.inl (by refine congrArg I ?_; unfold dirI; (repeat' split) <;> first | rfl | omega)) rfl (fun _ => trivial)
      ·refine aw_reg [(1, .dec true), (4, .dec false)] [0, 44] [] [I dx, Bv false] [] [dx < 0, ¬ (0 < dy)] (by kernel_rfl) hB ⟨h8, h9, trivial⟩ ?_
       refine ae_then ?_
       refine aw_false rfl ?_
       refine aw_seq ?_
       refine aw_reg [(1, .dec true)] [51] [] [Bv true] [] [dx < 0] (by kernel_rfl) hB ⟨h8, trivial⟩ ?_
       refine ae_then ?_
       refine aw_true rfl ?_
       refine aw_seq ?_
       refine aw_reg [] [4] [] [I 5] [] [] (by kernel_rfl) hB trivial ?_
       refine ae_then ?_
       refine aw_ret ?_
       refine ae_ret_block (ae_ret_then ?_)
       refine ae_ret hB (I 5) (by kernel_rfl) (.inl (by refine congrArg I ?_; unfold dirI; (repeat' split) <;> first | rfl | omega)) rfl (fun _ => trivial)
     ·refine aw_reg [(1, .dec false)] [0, 44] [] [I dx, Bv false] [] [¬ (dx < 0)] (by kernel_rfl) hB ⟨h8, trivial⟩ ?_
      refine ae_then ?_
      refine aw_false rfl ?_
      refine aw_seq ?_
      refine aw_reg [(1, .dec false)] [51] [] [Bv false] [] [¬ (dx < 0)] (by kernel_rfl) hB ⟨h8, trivial⟩ ?_
      refine ae_then ?_
      refine aw_false rfl ?_
      refine aw_skip ?_
      refine ae_block 0 ?_
      refine ae_then ?_
      refine aw_seq ?_
      refine aw_reg [] [4] [] [I 7] [] [] (by kernel_rfl) hB trivial ?_
      refine ae_then ?_
      refine aw_ret ?_
      refine ae_ret hB (I 7) (by kernel_rfl) (.inl (by refine congrArg I ?_; unfold dirI; (repeat' split) <;> first | rfl | omega)) rfl (fun _ => trivial)


-- spec.l05Directions
theorem l05Directions_ok (s : Stroke) (ok : okStroke' s = true) : Con Tryz.prog 71 [.ptr false [slPoint false s.Points]] true (slI true (dirsL s.Points s.Points.length)) := by
  have hln := okS_len ok
  refine fn_ok (fn := Tryz.f71) (nt := 66) Tryz.func71 rfl rfl rfl rfl (by simp [taggedL, tagged, tagPoint]) fun B hB => ?_
  refine aw_lens (x := .ptr false [slPoint false s.Points]) 0 rfl (fun len_s => ?_)
  simp [LenOK, LenL, cPoint, fPoint, slPoint] at len_s
  refine aw_seq ?_
  refine aw_reg [] [0] [] [.ptr false [slPoint false s.Points]] [] [] (by kernel_rfl) hB trivial ?_
  refine ae_then ?_
  refine aw_seq ?_
  refine aw_reg [(0, .new 7)] [0, 3] [7] [.ptr false [slPoint false s.Points], .arr 7] [some (.arr 1 0 (litF [] 1))] [] (by kernel_rfl) hB trivial ?_
  refine ae_then ?_
  refine aw_seq ?_
  refine aw_seq ?_
  refine aw_reg [] [0, 3, 4] [7] [.ptr false [slPoint false s.Points], .arr 7, I 1] [some (.arr 1 0 (litF [] 1))] [] (by kernel_rfl) hB trivial ?_
  refine ae_then ?_
  refine aw_block ?_
  refine aw_weak hB [] (T := [(0, .ptr false [slPoint false s.Points]), (3, .arr 7), (4, I 1)]) (O := [(7, .arr 1 (([] : List Int).length) (fI ([] : List Int)))]) rfl (⟨.inl rfl, .inl rfl, .inl rfl, trivial⟩) (⟨.inr ⟨rfl, (by first | rfl | (simp; done) | (simp; omega) | omega), fun i hi => absurd hi (Nat.not_lt_zero _)⟩, trivial⟩) ?_
  refine aw_loop (fun gn gσ => ∃ (out : List Int) (i : Int), gn = ((s.Points.length : Int) - i).toNat ∧ (1 ≤ i ∧ (i ≤ (s.Points.length : Int) ∨ i = 1)) ∧ (out = dirsL s.Points i.toNat) ∧ gσ = mkS [(0, .ptr false [slPoint false s.Points]), (3, .arr 7), (4, I i)] [(7, .arr 1 out.length (fI out))]) (((s.Points.length : Int) - 1).toNat) ⟨([] : List Int), 1, rfl, (by omega), (by exact (dirsL_one _).symm), rfl⟩ (fun gn gσ hI => ?_)
  obtain ⟨out, i, rfl, hi0, hd0, rfl⟩ := hI
  refine aw_seq ?_
  refine aw_seq ?_
  by_cases h1 : i < (s.Points.length : Int)
  ·have hi : i.toNat < s.Points.length := by omega
   have hi2 : (i - 1).toNat < s.Points.length := by omega
   have hp1 := okP_iff.1 (okS_at ok hi2)
   have hp2 := okP_iff.1 (okS_at ok hi)
   have hbd := dirI_bd ((at_ s.Points i.toNat).X - (at_ s.Points (i - 1).toNat).X) ((at_ s.Points i.toNat).Y - (at_ s.Points (i - 1).toNat).Y)
   have hdl : out.length ≤ i.toNat := by rw [hd0]; exact dirsL_len _ _
   refine aw_reg [(6, .dec true)] [0, 3, 4, 14] [7] [.ptr false [slPoint false s.Points], .arr 7, I i, Bv true] [some (.arr 1 out.length (fI out))] [i < (s.Points.length : Int)] (by kernel_rfl) hB ⟨h1, trivial⟩ ?_
   refine ae_then ?_
   refine aw_true rfl ?_
   refine aw_skip ?_
   refine ae_then ?_
   refine aw_seq ?_
   refine aw_block ?_
   refine aw_seq ?_
   refine aw_reg [] [0, 3, 4, 5] [7] [.ptr false [slPoint false s.Points], .arr 7, I i, I (((at_ s.Points i.toNat).X) - ((at_ s.Points ((i - 1).toNat)).X))] [some (.arr 1 out.length (fI out))] [(0 : Int) ≤ i ∧ i < (s.Points.length : Int), inR .i64 (i - 1), (0 : Int) ≤ (i - 1) ∧ (i - 1) < (s.Points.length : Int), inR .i64 (((at_ s.Points i.toNat).X) - ((at_ s.Points ((i - 1).toNat)).X))] (by kernel_rfl) hB ⟨⟨(by omega), (by omega)⟩, (inR_i64 (by omega) (by omega)), ⟨(by omega), (by omega)⟩, (inR_i64 (by omega) (by omega)), trivial⟩ ?_
   refine ae_then ?_
   refine aw_seq ?_
   refine aw_reg [] [0, 3, 4, 5, 6] [7] [.ptr false [slPoint false s.Points], .arr 7, I i, I (((at_ s.Points i.toNat).X) - ((at_ s.Points ((i - 1).toNat)).X)), I (((at_ s.Points i.toNat).Y) - ((at_ s.Points ((i - 1).toNat)).Y))] [some (.arr 1 out.length (fI out))] [(0 : Int) ≤ i ∧ i < (s.Points.length : Int), inR .i64 (i - 1), (0 : Int) ≤ (i - 1) ∧ (i - 1) < (s.Points.length : Int), inR .i64 (((at_ s.Points i.toNat).Y) - ((at_ s.Points ((i - 1).toNat)).Y))] (by kernel_rfl) hB ⟨⟨(by omega), (by omega)⟩, (inR_i64 (by omega) (by omega)), ⟨(by omega), (by omega)⟩, (inR_i64 (by omega) (by omega)), trivial⟩ ?_
   refine ae_then ?_
   refine aw_seq ?_
   by_cases h2 : (((at_ s.Points i.toNat).X) - ((at_ s.Points ((i - 1).toNat)).X)) = 0
   ·by_cases h3 : (((at_ s.Points i.toNat).Y) - ((at_ s.Points ((i - 1).toNat)).Y)) = 0
    ·refine aw_reg [(1, .dec false), (4, .dec false)] [0, 3, 4, 5, 6, 58] [7] [.ptr false [slPoint false s.Points], .arr 7, I i, I (((at_ s.Points i.toNat).X) - ((at_ s.Points ((i - 1).toNat)).X)), I (((at_ s.Points i.toNat).Y) - ((at_ s.Points ((i - 1).toNat)).Y)), Bv false] [some (.arr 1 out.length (fI out))] [¬ ((((at_ s.Points i.toNat).X) - ((at_ s.Points ((i - 1).toNat)).X)) ≠ 0), ¬ ((((at_ s.Points i.toNat).Y) - ((at_ s.Points ((i - 1).toNat)).Y)) ≠ 0)] (by kernel_rfl) hB ⟨(fun hq => hq h2), (fun hq => hq h3), trivial⟩ ?_
     refine ae_then ?_
     refine aw_false rfl ?_
     refine aw_skip ?_
     refine ae_block 1 ?_
     refine ae_then ?_
     refine aw_reg [] [0, 3, 4] [7] [.ptr false [slPoint false s.Points], .arr 7, I (i + 1)] [some (.arr 1 out.length (fI out))] [inR .i64 (i + 1)] (by kernel_rfl) hB ⟨(inR_i64 (by omega) (by omega)), trivial⟩ ?_
     exact ae_again _ (by omega) ⟨out, (i + 1), rfl, (by omega), (by rw [hd0]; first | (exact (dirsL_same hi0.1 (by omega) (by omega)).symm) | (exact (dirsL_more hi0.1 (by omega)).symm)), rfl⟩
    ·refine aw_reg [(1, .dec false), (4, .dec true)] [0, 3, 4, 5, 6, 58] [7] [.ptr false [slPoint false s.Points], .arr 7, I i, I (((at_ s.Points i.toNat).X) - ((at_ s.Points ((i - 1).toNat)).X)), I (((at_ s.Points i.toNat).Y) - ((at_ s.Points ((i - 1).toNat)).Y)), Bv true] [some (.arr 1 out.length (fI out))] [¬ ((((at_ s.Points i.toNat).X) - ((at_ s.Points ((i - 1).toNat)).X)) ≠ 0), (((at_ s.Points i.toNat).Y) - ((at_ s.Points ((i - 1).toNat)).Y)) ≠ 0] (by kernel_rfl) hB ⟨(fun hq => hq h2), h3, trivial⟩ ?_
     refine ae_then ?_
     refine aw_true rfl ?_
     refine aw_reg [(3, .call [(true, I (((at_ s.Points i.toNat).X) - ((at_ s.Points ((i - 1).toNat)).X))), (true, I (((at_ s.Points i.toNat).Y) - ((at_ s.Points ((i - 1).toNat)).Y)))] true (I (dirI (((at_ s.Points i.toNat).X) - ((at_ s.Points ((i - 1).toNat)).X)) (((at_ s.Points i.toNat).Y) - ((at_ s.Points ((i - 1).toNat)).Y))))), (4, .new 63), (5, .new 64)] [0, 3, 4] [64] [.ptr false [slPoint false s.Points], .arr 64, I i] [some (.arr 1 (out.length + 1) (catF out.length (fI out) (litF [I (dirI (((at_ s.Points i.toNat).X) - ((at_ s.Points ((i - 1).toNat)).X)) (((at_ s.Points i.toNat).Y) - ((at_ s.Points ((i - 1).toNat)).Y)))] 1)))] [Con Tryz.prog 95 [I (((at_ s.Points i.toNat).X) - ((at_ s.Points ((i - 1).toNat)).X)), I (((at_ s.Points i.toNat).Y) - ((at_ s.Points ((i - 1).toNat)).Y))] true (I (dirI (((at_ s.Points i.toNat).X) - ((at_ s.Points ((i - 1).toNat)).X)) (((at_ s.Points i.toNat).Y) - ((at_ s.Points ((i - 1).toNat)).Y)))) ∧ ((I (((at_ s.Points i.toNat).X) - ((at_ s.Points ((i - 1).toNat)).X)) : AV) = I (((at_ s.Points i.toNat).X) - ((at_ s.Points ((i - 1).toNat)).X))) ∧ ((I (((at_ s.Points i.toNat).Y) - ((at_ s.Points ((i - 1).toNat)).Y)) : AV) = I (((at_ s.Points i.toNat).Y) - ((at_ s.Points ((i - 1).toNat)).Y))) ∧ True, (out.length + 1) * 8 ≤ 140737488355328] (by kernel_rfl) hB ⟨⟨(l05Sector_ok (((at_ s.Points i.toNat).X) - ((at_ s.Points ((i - 1).toNat)).X)) (((at_ s.Points i.toNat).Y) - ((at_ s.Points ((i - 1).toNat)).Y)) (by omega)), rfl, rfl, trivial⟩, (by omega), trivial⟩ ?_
     refine ae_block 1 ?_
     refine ae_then ?_
     refine aw_reg [] [0, 3, 4] [64] [.ptr false [slPoint false s.Points], .arr 64, I (i + 1)] [some (.arr 1 (out.length + 1) (catF out.length (fI out) (litF [I (dirI (((at_ s.Points i.toNat).X) - ((at_ s.Points ((i - 1).toNat)).X)) (((at_ s.Points i.toNat).Y) - ((at_ s.Points ((i - 1).toNat)).Y)))] 1)))] [inR .i64 (i + 1)] (by kernel_rfl) hB ⟨(inR_i64 (by omega) (by omega)), trivial⟩ ?_
     refine ae_weak hB [(7, 64)] (T := [(0, .ptr false [slPoint false s.Points]), (3, .arr 7), (4, I (i + 1))]) (O := [(7, .arr 1 ((out ++ [(dirI (((at_ s.Points i.toNat).X) - ((at_ s.Points ((i - 1).toNat)).X)) (((at_ s.Points i.toNat).Y) - ((at_ s.Points ((i - 1).toNat)).Y)))]).length) (fI (out ++ [(dirI (((at_ s.Points i.toNat).X) - ((at_ s.Points ((i - 1).toNat)).X)) (((at_ s.Points i.toNat).Y) - ((at_ s.Points ((i - 1).toNat)).Y)))])))]) rfl (⟨.inl rfl, .inl rfl, .inl rfl, trivial⟩) (⟨.inr ⟨rfl, (by first | rfl | (simp; done) | (simp; omega) | omega), fun i hi => .inl (cat_snoc (enc := cI) (xs := out) rfl i hi)⟩, trivial⟩) (ae_again _ (by omega) ⟨(out ++ [(dirI (((at_ s.Points i.toNat).X) - ((at_ s.Points ((i - 1).toNat)).X)) (((at_ s.Points i.toNat).Y) - ((at_ s.Points ((i - 1).toNat)).Y)))]), (i + 1), rfl, (by omega), (by rw [hd0]; first | (exact (dirsL_same hi0.1 (by omega) (by omega)).symm) | (exact (dirsL_more hi0.1 (by omega)).symm)), rfl⟩)
   ·refine aw_reg [(1, .dec true)] [0, 3, 4, 5, 6, 58] [7] [.ptr false [slPoint false s.Points], .arr 7, I i, I (((at_ s.Points i.toNat).X) - ((at_ s.Points ((i - 1).toNat)).X)), I (((at_ s.Points i.toNat).Y) - ((at_ s.Points ((i - 1).toNat)).Y)), Bv true] [some (.arr 1 out.length (fI out))] [(((at_ s.Points i.toNat).X) - ((at_ s.Points ((i - 1).toNat)).X)) ≠ 0] (by kernel_rfl) hB ⟨h2, trivial⟩ ?_
    refine ae_then ?_
    refine aw_true rfl ?_
    refine aw_reg [(3, .call [(true, I (((at_ s.Points i.toNat).X) - ((at_ s.Points ((i - 1).toNat)).X))), (true, I (((at_ s.Points i.toNat).Y) - ((at_ s.Points ((i - 1).toNat)).Y)))] true (I (dirI (((at_ s.Points i.toNat).X) - ((at_ s.Points ((i - 1).toNat)).X)) (((at_ s.Points i.toNat).Y) - ((at_ s.Points ((i - 1).toNat)).Y))))), (4, .new 63), (5, .new 64)] [0, 3, 4] [64] [.ptr false [slPoint false s.Points], .arr 64, I i] [some (.arr 1 (out.length + 1) (catF out.length (fI out) (litF [I (dirI (((at_ s.Points i.toNat).X) - ((at_ s.Points ((i - 1).toNat)).X)) (((at_ s.Points i.toNat).Y) - ((at_ s.Points ((i - 1).toNat)).Y)))] 1)))] [Con Tryz.prog 95 [I (((at_ s.Points i.toNat).X) - ((at_ s.Points ((i - 1).toNat)).X)), I (((at_ s.Points i.toNat).Y) - ((at_ s.Points ((i - 1).toNat)).Y))] true (I (dirI (((at_ s.Points i.toNat).X) - ((at_ s.Points ((i - 1).toNat)).X)) (((at_ s.Points i.toNat).Y) - ((at_ s.Points ((i - 1).toNat)).Y)))) ∧ ((I (((at_ s.Points i.toNat).X) - ((at_ s.Points ((i - 1).toNat)).X)) : AV) = I (((at_ s.Points i.toNat).X) - ((at_ s.Points ((i - 1).toNat)).X))) ∧ ((I (((at_ s.Points i.toNat).Y) - ((at_ s.Points ((i - 1).toNat)).Y)) : AV) = I (((at_ s.Points i.toNat).Y) - ((at_ s.Points ((i - 1).toNat)).Y))) ∧ True, (out.length + 1) * 8 ≤ 140737488355328] (by kernel_rfl) hB ⟨⟨(l05Sector_ok (((at_ s.Points i.toNat).X) - ((at_ s.Points ((i - 1).toNat)).X)) (((at_ s.Points i.toNat).Y) - ((at_ s.Points ((i - 1).toNat)).Y)) (by omega)), rfl, rfl, trivial⟩, (by omega), trivial⟩ ?_
    refine ae_block 1 ?_
    refine ae_then ?_
    refine aw_reg [] [0, 3, 4] [64] [.ptr false [slPoint false s.Points], .arr 64, I (i + 1)] [some (.arr 1 (out.length + 1) (catF out.length (fI out) (litF [I (dirI (((at_ s.Points i.toNat).X) - ((at_ s.Points ((i - 1).toNat)).X)) (((at_ s.Points i.toNat).Y) - ((at_ s.Points ((i - 1).toNat)).Y)))] 1)))] [inR .i64 (i + 1)] (by kernel_rfl) hB ⟨(inR_i64 (by omega) (by omega)), trivial⟩ ?_
    refine ae_weak hB [(7, 64)] (T := [(0, .ptr false [slPoint false s.Points]), (3, .arr 7), (4, I (i + 1))]) (O := [(7, .arr 1 ((out ++ [(dirI (((at_ s.Points i.toNat).X) - ((at_ s.Points ((i - 1).toNat)).X)) (((at_ s.Points i.toNat).Y) - ((at_ s.Points ((i - 1).toNat)).Y)))]).length) (fI (out ++ [(dirI (((at_ s.Points i.toNat).X) - ((at_ s.Points ((i - 1).toNat)).X)) (((at_ s.Points i.toNat).Y) - ((at_ s.Points ((i - 1).toNat)).Y)))])))]) rfl (⟨.inl rfl, .inl rfl, .inl rfl, trivial⟩) (⟨.inr ⟨rfl, (by first | rfl | (simp; done) | (simp; omega) | omega), fun i hi => .inl (cat_snoc (enc := cI) (xs := out) rfl i hi)⟩, trivial⟩) (ae_again _ (by omega) ⟨(out ++ [(dirI (((at_ s.Points i.toNat).X) - ((at_ s.Points ((i - 1).toNat)).X)) (((at_ s.Points i.toNat).Y) - ((at_ s.Points ((i - 1).toNat)).Y)))]), (i + 1), rfl, (by omega), (by rw [hd0]; first | (exact (dirsL_same hi0.1 (by omega) (by omega)).symm) | (exact (dirsL_more hi0.1 (by omega)).symm)), rfl⟩)
  ·have hie : i.toNat = s.Points.length := by omega
   rw [hie] at hd0
   subst hd0
   refine aw_reg [(6, .dec false)] [0, 3, 4, 14] [7] [.ptr false [slPoint false s.Points], .arr 7, I i, Bv false] [some (.arr 1 ((dirsL s.Points s.Points.length).length) (fI (dirsL s.Points s.Points.length)))] [¬ (i < (s.Points.length : Int))] (by kernel_rfl) hB ⟨h1, trivial⟩ ?_
   refine ae_then ?_
   refine aw_false rfl ?_
   refine aw_exit ?_
   refine ae_exit_then ?_
   refine ae_exit_then ?_
   refine ae_exit_same ?_
   refine ae_then ?_
   refine aw_seq ?_
   refine aw_reg [] [2] [7] [.arr 7] [some (.arr 1 ((dirsL s.Points s.Points.length).length) (fI (dirsL s.Points s.Points.length)))] [] (by kernel_rfl) hB trivial ?_
   refine ae_then ?_
   refine aw_ret ?_
   refine ae_ret hB (.arr 7) (by kernel_rfl) (.inr ⟨(fun _ => rfl), rfl, rfl, fun i _ => .inl rfl⟩) rfl (fun _ => (tagI true _))


-- spec.l05Bend
theorem l05Bend_ok (a : Int) (b : Int) (ha : 0 ≤ a ∧ a ≤ 7) (hb : 0 ≤ b ∧ b ≤ 7) : Con Tryz.prog 72 [I a, I b] true (I (bendI a b)) := by
  refine fn_ok (fn := Tryz.f72) (nt := 16) Tryz.func72 rfl rfl rfl rfl (by simp [taggedL, tagged]) fun B hB => ?_
  refine aw_seq ?_
  refine aw_reg [] [0, 1] [] [I a, I b] [] [] (by kernel_rfl) hB trivial ?_
  refine ae_then ?_
  refine aw_seq ?_
  refine aw_reg [(4, .nn)] [5] [] [I (((b - a) + 8) % 8)] [] [inR .i64 (b - a), inR .i64 ((b - a) + 8), (0 : Int) ≤ ((b - a) + 8) ∧ (0 : Int) < 8] (by kernel_rfl) hB ⟨(inR_i64 (by omega) (by omega)), (inR_i64 (by omega) (by omega)), ⟨(by omega), (by omega)⟩, trivial⟩ ?_
  refine ae_then ?_
  refine aw_seq ?_
  refine aw_seq ?_
  by_cases h1 : 4 < (((b - a) + 8) % 8)
  ·refine aw_reg [(1, .dec true)] [5, 12] [] [I (((b - a) + 8) % 8), Bv true] [] [4 < (((b - a) + 8) % 8)] (by kernel_rfl) hB ⟨h1, trivial⟩ ?_
   refine ae_then ?_
   refine aw_true rfl ?_
   refine aw_reg [] [5] [] [I ((((b - a) + 8) % 8) - 8)] [] [inR .i64 ((((b - a) + 8) % 8) - 8)] (by kernel_rfl) hB ⟨(inR_i64 (by omega) (by omega)), trivial⟩ ?_
   refine ae_then ?_
   refine aw_seq ?_
   refine aw_reg [] [4] [] [I ((((b - a) + 8) % 8) - 8)] [] [] (by kernel_rfl) hB trivial ?_
   refine ae_then ?_
   refine aw_ret ?_
   refine ae_ret hB (I ((((b - a) + 8) % 8) - 8)) (by kernel_rfl) (.inl (by refine congrArg I ?_; unfold bendI; omega)) rfl (fun _ => trivial)
  ·refine aw_reg [(1, .dec false)] [5, 12] [] [I (((b - a) + 8) % 8), Bv false] [] [¬ (4 < (((b - a) + 8) % 8))] (by kernel_rfl) hB ⟨h1, trivial⟩ ?_
   refine ae_then ?_
   refine aw_false rfl ?_
   refine aw_skip ?_
   refine ae_then ?_
   refine aw_seq ?_
   refine aw_reg [] [4] [] [I (((b - a) + 8) % 8)] [] [] (by kernel_rfl) hB trivial ?_
   refine ae_then ?_
   refine aw_ret ?_
   refine ae_ret hB (I (((b - a) + 8) % 8)) (by kernel_rfl) (.inl (by refine congrArg I ?_; unfold bendI; omega)) rfl (fun _ => trivial)


-- spec.l02Join
theorem l02Join_ok (a : Box) (b : Box) : Con Tryz.prog 108 [agBox a, agBox b] true (agBox (joinB a b)) := by
  refine fn_ok (fn := Tryz.f108) (nt := 26) Tryz.func108 rfl rfl rfl rfl (by simp [taggedL, tagged]) fun B hB => ?_
  refine aw_seq ?_
  refine aw_reg [(0, .new 2), (1, .new 3), (2, .new 4)] [2, 3, 4] [2, 3, 4] [.ref 2 0, .ref 3 0, .ref 4 0] [some (bxBox a), some (bxBox b), some (.box [I 0, I 0, I 0, I 0])] [] (by kernel_rfl) hB trivial ?_
  refine ae_then ?_
  refine aw_seq ?_
  refine aw_reg [(4, .call [(true, I a.X1), (true, I b.X1)] true (I (min a.X1 b.X1))), (9, .call [(true, I a.Y1), (true, I b.Y1)] true (I (min a.Y1 b.Y1))), (14, .call [(true, I a.X2), (true, I b.X2)] true (I (max a.X2 b.X2))), (19, .call [(true, I a.Y2), (true, I b.Y2)] true (I (max a.Y2 b.Y2)))] [4] [4] [.ref 4 0] [some (.box [I (min a.X1 b.X1), I (min a.Y1 b.Y1), I (max a.X2 b.X2), I (max a.Y2 b.Y2)])] [Con Tryz.prog 88 [I a.X1, I b.X1] true (I (min a.X1 b.X1)) ∧ ((I a.X1 : AV) = I a.X1) ∧ ((I b.X1 : AV) = I b.X1) ∧ True, Con Tryz.prog 88 [I a.Y1, I b.Y1] true (I (min a.Y1 b.Y1)) ∧ ((I a.Y1 : AV) = I a.Y1) ∧ ((I b.Y1 : AV) = I b.Y1) ∧ True, Con Tryz.prog 87 [I a.X2, I b.X2] true (I (max a.X2 b.X2)) ∧ ((I a.X2 : AV) = I a.X2) ∧ ((I b.X2 : AV) = I b.X2) ∧ True, Con Tryz.prog 87 [I a.Y2, I b.Y2] true (I (max a.Y2 b.Y2)) ∧ ((I a.Y2 : AV) = I a.Y2) ∧ ((I b.Y2 : AV) = I b.Y2) ∧ True] (by kernel_rfl) hB ⟨⟨(l00Min_ok a.X1 b.X1), rfl, rfl, trivial⟩, ⟨(l00Min_ok a.Y1 b.Y1), rfl, rfl, trivial⟩, ⟨(l00Max_ok a.X2 b.X2), rfl, rfl, trivial⟩, ⟨(l00Max_ok a.Y2 b.Y2), rfl, rfl, trivial⟩, trivial⟩ ?_
  refine ae_then ?_
  refine aw_ret ?_
  refine ae_ret hB (.agg [I (min a.X1 b.X1), I (min a.Y1 b.Y1), I (max a.X2 b.X2), I (max a.Y2 b.Y2)]) (by kernel_rfl) (.inl (by first | rfl | (refine congrArg Bv ?_; simp [*]; done) | (refine congrArg Bv ?_; simp [*]; omega) | (refine congrArg Bv ?_; simp_all []; done) | (refine congrArg Bv ?_; simp_all []; omega))) rfl (fun _ => (by simp [tagged, taggedL]))


-- spec.l02BoxOf
theorem l02BoxOf_ok (s : Stroke) (ok : okStroke' s = true) : Con Tryz.prog 83 [.ptr false [slPoint false s.Points]] true (agBox (boxS s.Points s.Points.length)) := by
  have hln := okS_len ok
  refine fn_ok (fn := Tryz.f83) (nt := 50) Tryz.func83 rfl rfl rfl rfl (by simp [taggedL, tagged, tagPoint]) fun B hB => ?_
  refine aw_lens (x := .ptr false [slPoint false s.Points]) 0 rfl (fun len_s => ?_)
  simp [LenOK, LenL, cPoint, fPoint, slPoint] at len_s
  refine aw_seq ?_
  refine aw_reg [(0, .new 2)] [0, 2] [2] [.ptr false [slPoint false s.Points], .ref 2 0] [some (.box [I 0, I 0, I 0, I 0])] [] (by kernel_rfl) hB trivial ?_
  refine ae_then ?_
  refine aw_seq ?_
  refine aw_reg [(6, .new 3)] [0, 2, 3] [2, 3] [.ptr false [slPoint false s.Points], .ref 2 0, .ref 3 0] [some (.box [I 0, I 0, I 0, I 0]), some (bxPoint (at_ s.Points 0))] [(0 : Int) ≤ 0 ∧ 0 < (s.Points.length : Int)] (by kernel_rfl) hB ⟨⟨(by omega), (by omega)⟩, trivial⟩ ?_
  refine ae_then ?_
  refine aw_seq ?_
  refine aw_reg [(9, .new 4)] [0, 2, 4] [2, 4] [.ptr false [slPoint false s.Points], .ref 2 0, .ref 4 0] [some (.box [I 0, I 0, I 0, I 0]), some (.box [I ((at_ s.Points 0).X), I ((at_ s.Points 0).Y), I ((at_ s.Points 0).X), I ((at_ s.Points 0).Y)])] [] (by kernel_rfl) hB trivial ?_
  refine ae_then ?_
  refine aw_seq ?_
  refine aw_seq ?_
  refine aw_reg [] [0, 2, 4, 5] [2, 4] [.ptr false [slPoint false s.Points], .ref 2 0, .ref 4 0, I 1] [some (.box [I 0, I 0, I 0, I 0]), some (.box [I ((at_ s.Points 0).X), I ((at_ s.Points 0).Y), I ((at_ s.Points 0).X), I ((at_ s.Points 0).Y)])] [] (by kernel_rfl) hB trivial ?_
  refine ae_then ?_
  refine aw_block ?_
  refine aw_loop (fun gn gσ => ∃ (i : Int) (x1 : Int) (y1 : Int) (x2 : Int) (y2 : Int), gn = ((s.Points.length : Int) - i).toNat ∧ (1 ≤ i ∧ i ≤ (s.Points.length : Int)) ∧ (Box.mk x1 y1 x2 y2 = boxS s.Points i.toNat) ∧ gσ = mkS [(0, .ptr false [slPoint false s.Points]), (2, .ref 2 0), (4, .ref 4 0), (5, I i)] [(2, .box [I 0, I 0, I 0, I 0]), (4, .box [I x1, I y1, I x2, I y2])]) (((s.Points.length : Int) - 1).toNat) ⟨1, (at_ s.Points 0).X, (at_ s.Points 0).Y, (at_ s.Points 0).X, (at_ s.Points 0).Y, rfl, (by omega), (by first | rfl | exact (boxS_one _).symm), rfl⟩ (fun gn gσ hI => ?_)
  obtain ⟨i, x1, y1, x2, y2, rfl, hi0, hb1, rfl⟩ := hI
  refine aw_seq ?_
  refine aw_seq ?_
  by_cases h1 : i < (s.Points.length : Int)
  ·have hi : i.toNat < s.Points.length := by omega
   refine aw_reg [(6, .dec true)] [0, 2, 4, 5, 28] [2, 4] [.ptr false [slPoint false s.Points], .ref 2 0, .ref 4 0, I i, Bv true] [some (.box [I 0, I 0, I 0, I 0]), some (.box [I x1, I y1, I x2, I y2])] [i < (s.Points.length : Int)] (by kernel_rfl) hB ⟨h1, trivial⟩ ?_
   refine ae_then ?_
   refine aw_true rfl ?_
   refine aw_skip ?_
   refine ae_then ?_
   refine aw_seq ?_
   refine aw_block ?_
   refine aw_seq ?_
   refine aw_reg [(7, .new 6)] [0, 2, 4, 5, 6] [2, 4, 6] [.ptr false [slPoint false s.Points], .ref 2 0, .ref 4 0, I i, .ref 6 0] [some (.box [I 0, I 0, I 0, I 0]), some (.box [I x1, I y1, I x2, I y2]), some (bxPoint (at_ s.Points i.toNat))] [(0 : Int) ≤ i ∧ i < (s.Points.length : Int)] (by kernel_rfl) hB ⟨⟨(by omega), (by omega)⟩, trivial⟩ ?_
   refine ae_then ?_
   refine aw_reg [(10, .call [(true, .agg [I x1, I y1, I x2, I y2]), (true, .agg [I ((at_ s.Points i.toNat).X), I ((at_ s.Points i.toNat).Y), I ((at_ s.Points i.toNat).X), I ((at_ s.Points i.toNat).Y)])] true (agBox (joinB (Box.mk x1 y1 x2 y2) (Box.mk ((at_ s.Points i.toNat).X) ((at_ s.Points i.toNat).Y) ((at_ s.Points i.toNat).X) ((at_ s.Points i.toNat).Y)))))] [0, 2, 4, 5] [2, 4] [.ptr false [slPoint false s.Points], .ref 2 0, .ref 4 0, I i] [some (.box [I 0, I 0, I 0, I 0]), some (bxBox (joinB (Box.mk x1 y1 x2 y2) (Box.mk ((at_ s.Points i.toNat).X) ((at_ s.Points i.toNat).Y) ((at_ s.Points i.toNat).X) ((at_ s.Points i.toNat).Y))))] [Con Tryz.prog 108 [.agg [I x1, I y1, I x2, I y2], .agg [I ((at_ s.Points i.toNat).X), I ((at_ s.Points i.toNat).Y), I ((at_ s.Points i.toNat).X), I ((at_ s.Points i.toNat).Y)]] true (agBox (joinB (Box.mk x1 y1 x2 y2) (Box.mk ((at_ s.Points i.toNat).X) ((at_ s.Points i.toNat).Y) ((at_ s.Points i.toNat).X) ((at_ s.Points i.toNat).Y)))) ∧ ((.agg [I x1, I y1, I x2, I y2] : AV) = .agg [I x1, I y1, I x2, I y2]) ∧ ((.agg [I ((at_ s.Points i.toNat).X), I ((at_ s.Points i.toNat).Y), I ((at_ s.Points i.toNat).X), I ((at_ s.Points i.toNat).Y)] : AV) = .agg [I ((at_ s.Points i.toNat).X), I ((at_ s.Points i.toNat).Y), I ((at_ s.Points i.toNat).X), I ((at_ s.Points i.toNat).Y)]) ∧ True] (by kernel_rfl) hB ⟨⟨(l02Join_ok (Box.mk x1 y1 x2 y2) (Box.mk ((at_ s.Points i.toNat).X) ((at_ s.Points i.toNat).Y) ((at_ s.Points i.toNat).X) ((at_ s.Points i.toNat).Y))), rfl, rfl, trivial⟩, trivial⟩ ?_
   refine ae_block 1 ?_
   refine ae_then ?_
   refine aw_reg [] [0, 2, 4, 5] [2, 4] [.ptr false [slPoint false s.Points], .ref 2 0, .ref 4 0, I (i + 1)] [some (.box [I 0, I 0, I 0, I 0]), some (bxBox (joinB (Box.mk x1 y1 x2 y2) (Box.mk ((at_ s.Points i.toNat).X) ((at_ s.Points i.toNat).Y) ((at_ s.Points i.toNat).X) ((at_ s.Points i.toNat).Y))))] [inR .i64 (i + 1)] (by kernel_rfl) hB ⟨(inR_i64 (by omega) (by omega)), trivial⟩ ?_
   refine ae_weak hB [] (T := [(0, .ptr false [slPoint false s.Points]), (2, .ref 2 0), (4, .ref 4 0), (5, I (i + 1))]) (O := [(2, .box [I 0, I 0, I 0, I 0]), (4, .box [I ((joinB (Box.mk x1 y1 x2 y2) (Box.mk ((at_ s.Points i.toNat).X) ((at_ s.Points i.toNat).Y) ((at_ s.Points i.toNat).X) ((at_ s.Points i.toNat).Y))).X1), I ((joinB (Box.mk x1 y1 x2 y2) (Box.mk ((at_ s.Points i.toNat).X) ((at_ s.Points i.toNat).Y) ((at_ s.Points i.toNat).X) ((at_ s.Points i.toNat).Y))).Y1), I ((joinB (Box.mk x1 y1 x2 y2) (Box.mk ((at_ s.Points i.toNat).X) ((at_ s.Points i.toNat).Y) ((at_ s.Points i.toNat).X) ((at_ s.Points i.toNat).Y))).X2), I ((joinB (Box.mk x1 y1 x2 y2) (Box.mk ((at_ s.Points i.toNat).X) ((at_ s.Points i.toNat).Y) ((at_ s.Points i.toNat).X) ((at_ s.Points i.toNat).Y))).Y2)])]) rfl (⟨.inl rfl, .inl rfl, .inl rfl, .inl rfl, trivial⟩) (⟨.inl rfl, .inr ⟨rfl, ⟨rfl, ⟨rfl, ⟨rfl, rfl⟩⟩⟩⟩, trivial⟩) (ae_again _ (by omega) ⟨(i + 1), (joinB (Box.mk x1 y1 x2 y2) (Box.mk ((at_ s.Points i.toNat).X) ((at_ s.Points i.toNat).Y) ((at_ s.Points i.toNat).X) ((at_ s.Points i.toNat).Y))).X1, (joinB (Box.mk x1 y1 x2 y2) (Box.mk ((at_ s.Points i.toNat).X) ((at_ s.Points i.toNat).Y) ((at_ s.Points i.toNat).X) ((at_ s.Points i.toNat).Y))).Y1, (joinB (Box.mk x1 y1 x2 y2) (Box.mk ((at_ s.Points i.toNat).X) ((at_ s.Points i.toNat).Y) ((at_ s.Points i.toNat).X) ((at_ s.Points i.toNat).Y))).X2, (joinB (Box.mk x1 y1 x2 y2) (Box.mk ((at_ s.Points i.toNat).X) ((at_ s.Points i.toNat).Y) ((at_ s.Points i.toNat).X) ((at_ s.Points i.toNat).Y))).Y2, rfl, (by omega), (by rw [boxS_succ (by omega), ← hb1]; rfl), rfl⟩)
  ·have hie : i.toNat = s.Points.length := by omega
   rw [hie] at hb1
   refine aw_reg [(6, .dec false)] [0, 2, 4, 5, 28] [2, 4] [.ptr false [slPoint false s.Points], .ref 2 0, .ref 4 0, I i, Bv false] [some (.box [I 0, I 0, I 0, I 0]), some (.box [I x1, I y1, I x2, I y2])] [¬ (i < (s.Points.length : Int))] (by kernel_rfl) hB ⟨h1, trivial⟩ ?_
   refine ae_then ?_
   refine aw_false rfl ?_
   refine aw_exit ?_
   refine ae_exit_then ?_
   refine ae_exit_then ?_
   refine ae_exit_same ?_
   refine ae_then ?_
   refine aw_seq ?_
   refine aw_reg [] [2] [2] [.ref 2 0] [some (.box [I x1, I y1, I x2, I y2])] [] (by kernel_rfl) hB trivial ?_
   refine ae_then ?_
   refine aw_ret ?_
   refine ae_ret hB (.agg [I x1, I y1, I x2, I y2]) (by kernel_rfl) (.inl (by rw [← hb1])) rfl (fun _ => (by simp [tagged, taggedL]))


-- spec.l23Caret
theorem l23Caret_ok (s : Stroke) (ok : okStroke' s = true) : Con Tryz.prog 75 [.ptr false [slPoint false s.Points]] true (Bv (caretB s)) := by
  have hln := okS_len ok
  have hpf := okS_at ok (j := 0) (by omega)
  have hpl := okS_at ok (j := s.Points.length - 1) (by omega)
  have hpf' := okP_iff.1 hpf
  have hpl' := okP_iff.1 hpl
  have hbx := boxS_all ok
  unfold okBox at hbx
  have hsb := sumS_bd ok s.Points.length (Nat.le_refl _)
  have heb := ends_bd ok
  have hle : ((s.Points.length : Int) - 1).toNat = s.Points.length - 1 := by omega
  have hplz : okP (at_ s.Points ((s.Points.length : Int) - 1).toNat) = true := by rw [hle]; exact hpl
  have hplz' := okP_iff.1 hplz
  refine fn_ok (fn := Tryz.f75) (nt := 59) Tryz.func75 rfl rfl rfl rfl (by simp [taggedL, tagged, tagPoint]) fun B hB => ?_
  refine aw_lens (x := .ptr false [slPoint false s.Points]) 0 rfl (fun len_s => ?_)
  simp [LenOK, LenL, cPoint, fPoint, slPoint] at len_s
  refine aw_seq ?_
  refine aw_reg [] [0] [] [.ptr false [slPoint false s.Points]] [] [] (by kernel_rfl) hB trivial ?_
  refine ae_then ?_
  refine aw_seq ?_
  refine aw_reg [(1, .call [(true, .ptr false [slPoint false s.Points])] true (agBox (boxS s.Points s.Points.length))), (2, .new 3)] [0, 3] [3] [.ptr false [slPoint false s.Points], .ref 3 0] [some (bxBox (boxS s.Points s.Points.length))] [Con Tryz.prog 83 [.ptr false [slPoint false s.Points]] true (agBox (boxS s.Points s.Points.length)) ∧ ((.ptr false [slPoint false s.Points] : AV) = .ptr false [slPoint false s.Points]) ∧ True] (by kernel_rfl) hB ⟨⟨(l02BoxOf_ok s ok), rfl, trivial⟩, trivial⟩ ?_
  refine ae_then ?_
  refine aw_seq ?_
  refine aw_reg [] [0, 3, 4] [3] [.ptr false [slPoint false s.Points], .ref 3 0, I (((boxS s.Points s.Points.length).Y2) - ((boxS s.Points s.Points.length).Y1))] [some (bxBox (boxS s.Points s.Points.length))] [inR .i64 (((boxS s.Points s.Points.length).Y2) - ((boxS s.Points s.Points.length).Y1))] (by kernel_rfl) hB ⟨(inR_i64 (by omega) (by omega)), trivial⟩ ?_
  refine ae_then ?_
  refine aw_seq ?_
  refine aw_reg [] [0, 3, 4, 5] [3] [.ptr false [slPoint false s.Points], .ref 3 0, I (((boxS s.Points s.Points.length).Y2) - ((boxS s.Points s.Points.length).Y1)), I (((at_ s.Points 0).Y) - ((boxS s.Points s.Points.length).Y1))] [some (bxBox (boxS s.Points s.Points.length))] [(0 : Int) ≤ 0 ∧ 0 < (s.Points.length : Int), inR .i64 (((at_ s.Points 0).Y) - ((boxS s.Points s.Points.length).Y1))] (by kernel_rfl) hB ⟨⟨(by omega), (by omega)⟩, (inR_i64 (by omega) (by omega)), trivial⟩ ?_
  refine ae_then ?_
  refine aw_seq ?_
  refine aw_reg [] [0, 4, 5, 6] [] [.ptr false [slPoint false s.Points], I (((boxS s.Points s.Points.length).Y2) - ((boxS s.Points s.Points.length).Y1)), I (((at_ s.Points 0).Y) - ((boxS s.Points s.Points.length).Y1)), I (((at_ s.Points (((s.Points.length : Int) - 1).toNat)).Y) - ((boxS s.Points s.Points.length).Y1))] [] [inR .i64 ((s.Points.length : Int) - 1), (0 : Int) ≤ ((s.Points.length : Int) - 1) ∧ ((s.Points.length : Int) - 1) < (s.Points.length : Int), inR .i64 (((at_ s.Points (((s.Points.length : Int) - 1).toNat)).Y) - ((boxS s.Points s.Points.length).Y1))] (by kernel_rfl) hB ⟨(inR_i64 (by omega) (by omega)), ⟨(by omega), (by omega)⟩, (inR_i64 (by omega) (by omega)), trivial⟩ ?_
  refine ae_then ?_
  refine aw_seq ?_
  by_cases h1 : 0 < (((boxS s.Points s.Points.length).Y2) - ((boxS s.Points s.Points.length).Y1))
  ·by_cases h2 : (((boxS s.Points s.Points.length).Y2) - ((boxS s.Points s.Points.length).Y1)) ≤ (2 * (((at_ s.Points 0).Y) - ((boxS s.Points s.Points.length).Y1)))
   ·by_cases h3 : (((boxS s.Points s.Points.length).Y2) - ((boxS s.Points s.Points.length).Y1)) ≤ (2 * (((at_ s.Points (((s.Points.length : Int) - 1).toNat)).Y) - ((boxS s.Points s.Points.length).Y1)))
    ·refine aw_reg [(1, .dec true), (6, .dec true), (12, .dec true), (16, .call [(true, .ptr false [slPoint false s.Points])] true (I ((revS s.Points s.Points.length).1)))] [2] [] [Bv (decide (((revS s.Points s.Points.length).1) = 0))] [] [0 < (((boxS s.Points s.Points.length).Y2) - ((boxS s.Points s.Points.length).Y1)), inR .i64 (2 * (((at_ s.Points 0).Y) - ((boxS s.Points s.Points.length).Y1))), (((boxS s.Points s.Points.length).Y2) - ((boxS s.Points s.Points.length).Y1)) ≤ (2 * (((at_ s.Points 0).Y) - ((boxS s.Points s.Points.length).Y1))), inR .i64 (2 * (((at_ s.Points (((s.Points.length : Int) - 1).toNat)).Y) - ((boxS s.Points s.Points.length).Y1))), (((boxS s.Points s.Points.length).Y2) - ((boxS s.Points s.Points.length).Y1)) ≤ (2 * (((at_ s.Points (((s.Points.length : Int) - 1).toNat)).Y) - ((boxS s.Points s.Points.length).Y1))), Con Tryz.prog 38 [.ptr false [slPoint false s.Points]] true (I ((revS s.Points s.Points.length).1)) ∧ ((.ptr false [slPoint false s.Points] : AV) = .ptr false [slPoint false s.Points]) ∧ True] (by kernel_rfl) hB ⟨h1, (inR_i64 (by omega) (by omega)), h2, (inR_i64 (by omega) (by omega)), h3, ⟨(l23Reversals_ok s ok), rfl, trivial⟩, trivial⟩ ?_
     refine ae_then ?_
     refine aw_ret ?_
     refine ae_ret hB (Bv (decide (((revS s.Points s.Points.length).1) = 0))) (by kernel_rfl) (.inl (by refine congrArg Bv ?_; unfold caretB; simp only [hle] at *; rw [Bool.eq_iff_iff]; simp_all; try omega)) rfl (fun _ => trivial)
    ·refine aw_reg [(1, .dec true), (6, .dec true), (12, .dec false)] [2] [] [Bv false] [] [0 < (((boxS s.Points s.Points.length).Y2) - ((boxS s.Points s.Points.length).Y1)), inR .i64 (2 * (((at_ s.Points 0).Y) - ((boxS s.Points s.Points.length).Y1))), (((boxS s.Points s.Points.length).Y2) - ((boxS s.Points s.Points.length).Y1)) ≤ (2 * (((at_ s.Points 0).Y) - ((boxS s.Points s.Points.length).Y1))), inR .i64 (2 * (((at_ s.Points (((s.Points.length : Int) - 1).toNat)).Y) - ((boxS s.Points s.Points.length).Y1))), ¬ ((((boxS s.Points s.Points.length).Y2) - ((boxS s.Points s.Points.length).Y1)) ≤ (2 * (((at_ s.Points (((s.Points.length : Int) - 1).toNat)).Y) - ((boxS s.Points s.Points.length).Y1))))] (by kernel_rfl) hB ⟨h1, (inR_i64 (by omega) (by omega)), h2, (inR_i64 (by omega) (by omega)), h3, trivial⟩ ?_
     refine ae_then ?_
     refine aw_ret ?_
     refine ae_ret hB (Bv false) (by kernel_rfl) (.inl (by refine congrArg Bv ?_; unfold caretB; simp only [hle] at *; rw [Bool.eq_iff_iff]; simp_all; try omega)) rfl (fun _ => trivial)
   ·refine aw_reg [(1, .dec true), (6, .dec false)] [2] [] [Bv false] [] [0 < (((boxS s.Points s.Points.length).Y2) - ((boxS s.Points s.Points.length).Y1)), inR .i64 (2 * (((at_ s.Points 0).Y) - ((boxS s.Points s.Points.length).Y1))), ¬ ((((boxS s.Points s.Points.length).Y2) - ((boxS s.Points s.Points.length).Y1)) ≤ (2 * (((at_ s.Points 0).Y) - ((boxS s.Points s.Points.length).Y1))))] (by kernel_rfl) hB ⟨h1, (inR_i64 (by omega) (by omega)), h2, trivial⟩ ?_
    refine ae_then ?_
    refine aw_ret ?_
    refine ae_ret hB (Bv false) (by kernel_rfl) (.inl (by refine congrArg Bv ?_; unfold caretB; simp only [hle] at *; rw [Bool.eq_iff_iff]; simp_all; try omega)) rfl (fun _ => trivial)
  ·refine aw_reg [(1, .dec false)] [2] [] [Bv false] [] [¬ (0 < (((boxS s.Points s.Points.length).Y2) - ((boxS s.Points s.Points.length).Y1)))] (by kernel_rfl) hB ⟨h1, trivial⟩ ?_
   refine ae_then ?_
   refine aw_ret ?_
   refine ae_ret hB (Bv false) (by kernel_rfl) (.inl (by refine congrArg Bv ?_; unfold caretB; simp only [hle] at *; rw [Bool.eq_iff_iff]; simp_all; try omega)) rfl (fun _ => trivial)


-- spec.l05Straight
theorem l05Straight_ok (s : Stroke) (ok : okStroke' s = true) : Con Tryz.prog 76 [.ptr false [slPoint false s.Points]] true (I (strI s)) := by
  have hln := okS_len ok
  have hpf := okS_at ok (j := 0) (by omega)
  have hpl := okS_at ok (j := s.Points.length - 1) (by omega)
  have hpf' := okP_iff.1 hpf
  have hpl' := okP_iff.1 hpl
  have hbx := boxS_all ok
  unfold okBox at hbx
  have hsb := sumS_bd ok s.Points.length (Nat.le_refl _)
  have heb := ends_bd ok
  have hle : ((s.Points.length : Int) - 1).toNat = s.Points.length - 1 := by omega
  have hplz : okP (at_ s.Points ((s.Points.length : Int) - 1).toNat) = true := by rw [hle]; exact hpl
  have hplz' := okP_iff.1 hplz
  have heb2 := segI_bd hpf hplz
  have heb3 := segI_bd hpf hpl
  refine fn_ok (fn := Tryz.f76) (nt := 31) Tryz.func76 rfl rfl rfl rfl (by simp [taggedL, tagged, tagPoint]) fun B hB => ?_
  refine aw_lens (x := .ptr false [slPoint false s.Points]) 0 rfl (fun len_s => ?_)
  simp [LenOK, LenL, cPoint, fPoint, slPoint] at len_s
  refine aw_seq ?_
  refine aw_reg [] [0] [] [.ptr false [slPoint false s.Points]] [] [] (by kernel_rfl) hB trivial ?_
  refine ae_then ?_
  refine aw_seq ?_
  refine aw_reg [(1, .call [(true, .ptr false [slPoint false s.Points])] true (I (sumS s.Points s.Points.length)))] [0, 3] [] [.ptr false [slPoint false s.Points], I (sumS s.Points s.Points.length)] [] [Con Tryz.prog 70 [.ptr false [slPoint false s.Points]] true (I (sumS s.Points s.Points.length)) ∧ ((.ptr false [slPoint false s.Points] : AV) = .ptr false [slPoint false s.Points]) ∧ True] (by kernel_rfl) hB ⟨⟨(l05Sum_ok s ok), rfl, trivial⟩, trivial⟩ ?_
  refine ae_then ?_
  refine aw_seq ?_
  refine aw_seq ?_
  by_cases h1 : (sumS s.Points s.Points.length) = 0
  ·refine aw_reg [(1, .dec true)] [0, 3, 7] [] [.ptr false [slPoint false s.Points], I (sumS s.Points s.Points.length), Bv true] [] [(sumS s.Points s.Points.length) = 0] (by kernel_rfl) hB ⟨h1, trivial⟩ ?_
   refine ae_then ?_
   refine aw_true rfl ?_
   refine aw_seq ?_
   refine aw_reg [] [2] [] [I 1000] [] [] (by kernel_rfl) hB trivial ?_
   refine ae_then ?_
   refine aw_ret ?_
   refine ae_ret_then ?_
   refine ae_ret hB (I 1000) (by kernel_rfl) (.inl (by refine congrArg I ?_; unfold strI endsI; simp_all [hle])) rfl (fun _ => trivial)
  ·refine aw_reg [(1, .dec false)] [0, 3, 7] [] [.ptr false [slPoint false s.Points], I (sumS s.Points s.Points.length), Bv false] [] [¬ ((sumS s.Points s.Points.length) = 0)] (by kernel_rfl) hB ⟨h1, trivial⟩ ?_
   refine ae_then ?_
   refine aw_false rfl ?_
   refine aw_skip ?_
   refine ae_then ?_
   refine aw_seq ?_
   refine aw_reg [(18, .call [(true, agPoint (at_ s.Points 0)), (true, agPoint (at_ s.Points (((s.Points.length : Int) - 1).toNat)))] true (I (segI (at_ s.Points 0) (at_ s.Points (((s.Points.length : Int) - 1).toNat))))), (21, .nn), (22, .call [(true, I 1000), (true, I ((1000 * (segI (at_ s.Points 0) (at_ s.Points (((s.Points.length : Int) - 1).toNat)))) / (sumS s.Points s.Points.length)))] true (I (min 1000 ((1000 * (segI (at_ s.Points 0) (at_ s.Points (((s.Points.length : Int) - 1).toNat)))) / (sumS s.Points s.Points.length)))))] [2] [] [I (min 1000 ((1000 * (segI (at_ s.Points 0) (at_ s.Points (((s.Points.length : Int) - 1).toNat)))) / (sumS s.Points s.Points.length)))] [] [(0 : Int) ≤ 0 ∧ 0 < (s.Points.length : Int), inR .i64 ((s.Points.length : Int) - 1), (0 : Int) ≤ ((s.Points.length : Int) - 1) ∧ ((s.Points.length : Int) - 1) < (s.Points.length : Int), Con Tryz.prog 74 [agPoint (at_ s.Points 0), agPoint (at_ s.Points (((s.Points.length : Int) - 1).toNat))] true (I (segI (at_ s.Points 0) (at_ s.Points (((s.Points.length : Int) - 1).toNat)))) ∧ ((agPoint (at_ s.Points 0) : AV) = agPoint (at_ s.Points 0)) ∧ ((agPoint (at_ s.Points (((s.Points.length : Int) - 1).toNat)) : AV) = agPoint (at_ s.Points (((s.Points.length : Int) - 1).toNat))) ∧ True, inR .i64 (1000 * (segI (at_ s.Points 0) (at_ s.Points (((s.Points.length : Int) - 1).toNat)))), (0 : Int) ≤ (1000 * (segI (at_ s.Points 0) (at_ s.Points (((s.Points.length : Int) - 1).toNat)))) ∧ (0 : Int) < (sumS s.Points s.Points.length) ∧ inR .i64 (1000 * (segI (at_ s.Points 0) (at_ s.Points (((s.Points.length : Int) - 1).toNat)))), Con Tryz.prog 88 [I 1000, I ((1000 * (segI (at_ s.Points 0) (at_ s.Points (((s.Points.length : Int) - 1).toNat)))) / (sumS s.Points s.Points.length))] true (I (min 1000 ((1000 * (segI (at_ s.Points 0) (at_ s.Points (((s.Points.length : Int) - 1).toNat)))) / (sumS s.Points s.Points.length)))) ∧ ((I 1000 : AV) = I 1000) ∧ ((I ((1000 * (segI (at_ s.Points 0) (at_ s.Points (((s.Points.length : Int) - 1).toNat)))) / (sumS s.Points s.Points.length)) : AV) = I ((1000 * (segI (at_ s.Points 0) (at_ s.Points (((s.Points.length : Int) - 1).toNat)))) / (sumS s.Points s.Points.length))) ∧ True] (by kernel_rfl) hB ⟨⟨(by omega), (by omega)⟩, (inR_i64 (by omega) (by omega)), ⟨(by omega), (by omega)⟩, ⟨(l05Length_ok (at_ s.Points 0) (at_ s.Points (((s.Points.length : Int) - 1).toNat)) (by assumption) (by assumption)), rfl, rfl, trivial⟩, (inR_i64 (by omega) (by omega)), ⟨(by omega), (by omega), (inR_i64 (by omega) (by omega))⟩, ⟨(l00Min_ok 1000 ((1000 * (segI (at_ s.Points 0) (at_ s.Points (((s.Points.length : Int) - 1).toNat)))) / (sumS s.Points s.Points.length))), rfl, rfl, trivial⟩, trivial⟩ ?_
   refine ae_then ?_
   refine aw_ret ?_
   refine ae_ret hB (I (min 1000 ((1000 * (segI (at_ s.Points 0) (at_ s.Points (((s.Points.length : Int) - 1).toNat)))) / (sumS s.Points s.Points.length)))) (by kernel_rfl) (.inl (by refine congrArg I ?_; unfold strI endsI; simp_all [hle])) rfl (fun _ => trivial)


-- spec.l23Gesture
theorem l23Gesture_ok (s : Stroke) (ok : okStroke' s = true) : Con Tryz.prog 36 [.ptr false [slPoint false s.Points]] true (I (gestI s)) := by
  have hln := okS_len ok
  have hpf := okS_at ok (j := 0) (by omega)
  have hpl := okS_at ok (j := s.Points.length - 1) (by omega)
  have hpf' := okP_iff.1 hpf
  have hpl' := okP_iff.1 hpl
  have hbx := boxS_all ok
  unfold okBox at hbx
  have hsb := sumS_bd ok s.Points.length (Nat.le_refl _)
  have heb := ends_bd ok
  have hle : ((s.Points.length : Int) - 1).toNat = s.Points.length - 1 := by omega
  have hplz : okP (at_ s.Points ((s.Points.length : Int) - 1).toNat) = true := by rw [hle]; exact hpl
  have hplz' := okP_iff.1 hplz
  have heb2 := segI_bd hpf hplz
  have heb3 := segI_bd hpf hpl
  have hdl := dirsL_len s.Points s.Points.length
  have hbtb := bendT_bd ok
  refine fn_ok (fn := Tryz.f36) (nt := 66) Tryz.func36 rfl rfl rfl rfl (by simp [taggedL, tagged, tagPoint]) fun B hB => ?_
  refine aw_lens (x := .ptr false [slPoint false s.Points]) 0 rfl (fun len_s => ?_)
  simp [LenOK, LenL, cPoint, fPoint, slPoint] at len_s
  refine aw_seq ?_
  refine aw_reg [] [0] [] [.ptr false [slPoint false s.Points]] [] [] (by kernel_rfl) hB trivial ?_
  refine ae_then ?_
  refine aw_seq ?_
  refine aw_reg [(1, .call [(true, .ptr false [slPoint false s.Points])] true (I (sumS s.Points s.Points.length)))] [0, 3] [] [.ptr false [slPoint false s.Points], I (sumS s.Points s.Points.length)] [] [Con Tryz.prog 70 [.ptr false [slPoint false s.Points]] true (I (sumS s.Points s.Points.length)) ∧ ((.ptr false [slPoint false s.Points] : AV) = .ptr false [slPoint false s.Points]) ∧ True] (by kernel_rfl) hB ⟨⟨(l05Sum_ok s ok), rfl, trivial⟩, trivial⟩ ?_
  refine ae_then ?_
  refine aw_seq ?_
  refine aw_seq ?_
  by_cases h1 : (sumS s.Points s.Points.length) ≤ 160
  ·refine aw_reg [(1, .dec true)] [0, 3, 10] [] [.ptr false [slPoint false s.Points], I (sumS s.Points s.Points.length), Bv true] [] [(sumS s.Points s.Points.length) ≤ 160] (by kernel_rfl) hB ⟨h1, trivial⟩ ?_
   refine ae_then ?_
   refine aw_true rfl ?_
   refine aw_seq ?_
   refine aw_reg [] [2] [] [I 1] [] [] (by kernel_rfl) hB trivial ?_
   refine ae_then ?_
   refine aw_ret ?_
   refine ae_ret_then ?_
   refine ae_ret hB (I 1) (by kernel_rfl) (.inl (by refine congrArg I ?_; unfold gestI endsI; simp_all [hle]; try omega)) rfl (fun _ => trivial)
  ·refine aw_reg [(1, .dec false)] [0, 3, 10] [] [.ptr false [slPoint false s.Points], I (sumS s.Points s.Points.length), Bv false] [] [¬ ((sumS s.Points s.Points.length) ≤ 160)] (by kernel_rfl) hB ⟨h1, trivial⟩ ?_
   refine ae_then ?_
   refine aw_false rfl ?_
   refine aw_skip ?_
   refine ae_then ?_
   refine aw_seq ?_
   refine aw_seq ?_
   by_cases h2 : 3 ≤ ((revS s.Points s.Points.length).1)
   ·refine aw_reg [(1, .call [(true, .ptr false [slPoint false s.Points])] true (I ((revS s.Points s.Points.length).1))), (2, .dec true)] [0, 3, 13] [] [.ptr false [slPoint false s.Points], I (sumS s.Points s.Points.length), Bv true] [] [Con Tryz.prog 38 [.ptr false [slPoint false s.Points]] true (I ((revS s.Points s.Points.length).1)) ∧ ((.ptr false [slPoint false s.Points] : AV) = .ptr false [slPoint false s.Points]) ∧ True, 3 ≤ ((revS s.Points s.Points.length).1)] (by kernel_rfl) hB ⟨⟨(l23Reversals_ok s ok), rfl, trivial⟩, h2, trivial⟩ ?_
    refine ae_then ?_
    refine aw_true rfl ?_
    refine aw_seq ?_
    refine aw_reg [] [2] [] [I 2] [] [] (by kernel_rfl) hB trivial ?_
    refine ae_then ?_
    refine aw_ret ?_
    refine ae_ret_then ?_
    refine ae_ret hB (I 2) (by kernel_rfl) (.inl (by refine congrArg I ?_; unfold gestI endsI; simp_all [hle]; try omega)) rfl (fun _ => trivial)
   ·refine aw_reg [(1, .call [(true, .ptr false [slPoint false s.Points])] true (I ((revS s.Points s.Points.length).1))), (2, .dec false)] [0, 3, 13] [] [.ptr false [slPoint false s.Points], I (sumS s.Points s.Points.length), Bv false] [] [Con Tryz.prog 38 [.ptr false [slPoint false s.Points]] true (I ((revS s.Points s.Points.length).1)) ∧ ((.ptr false [slPoint false s.Points] : AV) = .ptr false [slPoint false s.Points]) ∧ True, ¬ (3 ≤ ((revS s.Points s.Points.length).1))] (by kernel_rfl) hB ⟨⟨(l23Reversals_ok s ok), rfl, trivial⟩, h2, trivial⟩ ?_
    refine ae_then ?_
    refine aw_false rfl ?_
    refine aw_skip ?_
    refine ae_then ?_
    refine aw_seq ?_
    refine aw_reg [(1, .call [(true, .ptr false [slPoint false s.Points])] true (slI true (dirsL s.Points s.Points.length)))] [0, 3, 4] [] [.ptr false [slPoint false s.Points], I (sumS s.Points s.Points.length), slI true (dirsL s.Points s.Points.length)] [] [Con Tryz.prog 71 [.ptr false [slPoint false s.Points]] true (slI true (dirsL s.Points s.Points.length)) ∧ ((.ptr false [slPoint false s.Points] : AV) = .ptr false [slPoint false s.Points]) ∧ True] (by kernel_rfl) hB ⟨⟨(l05Directions_ok s ok), rfl, trivial⟩, trivial⟩ ?_
    refine ae_then ?_
    refine aw_seq ?_
    refine aw_reg [] [0, 3, 4, 5] [] [.ptr false [slPoint false s.Points], I (sumS s.Points s.Points.length), slI true (dirsL s.Points s.Points.length), I 0] [] [] (by kernel_rfl) hB trivial ?_
    refine ae_then ?_
    refine aw_seq ?_
    refine aw_seq ?_
    refine aw_reg [] [0, 3, 4, 5, 6] [] [.ptr false [slPoint false s.Points], I (sumS s.Points s.Points.length), slI true (dirsL s.Points s.Points.length), I 0, I 1] [] [] (by kernel_rfl) hB trivial ?_
    refine ae_then ?_
    refine aw_block ?_
    refine aw_loop (fun gn gσ => ∃ (bend : Int) (i : Int), gn = (((dirsL s.Points s.Points.length).length : Int) - i).toNat ∧ (1 ≤ i ∧ (i ≤ ((dirsL s.Points s.Points.length).length : Int) ∨ i = 1)) ∧ (bend = bendS (dirsL s.Points s.Points.length) i.toNat) ∧ (-3 * i ≤ bend ∧ bend ≤ 4 * i) ∧ gσ = mkS [(0, .ptr false [slPoint false s.Points]), (3, I (sumS s.Points s.Points.length)), (4, slI true (dirsL s.Points s.Points.length)), (5, I bend), (6, I i)] []) ((((dirsL s.Points s.Points.length).length : Int) - 1).toNat) ⟨0, 1, rfl, (by omega), (by exact (bendS_one _ _ (by decide)).symm), (by omega), rfl⟩ (fun gn gσ hI => ?_)
    obtain ⟨bend, i, rfl, hb0, hb1, hb2, rfl⟩ := hI
    refine aw_seq ?_
    refine aw_seq ?_
    by_cases h3 : i < (((dirsL s.Points s.Points.length).length) : Int)
    ·have hi : i.toNat < (dirsL s.Points s.Points.length).length := by omega
     have hi2 : (i - 1).toNat < (dirsL s.Points s.Points.length).length := by omega
     have hd1 := dirsL_bd _ _ _ hi
     have hd2 := dirsL_bd _ _ _ hi2
     have hbb := bendI_bd (at_ (dirsL s.Points s.Points.length) (i - 1).toNat) (at_ (dirsL s.Points s.Points.length) i.toNat)
     refine aw_reg [(3, .dec true)] [0, 3, 4, 5, 6, 19] [] [.ptr false [slPoint false s.Points], I (sumS s.Points s.Points.length), slI true (dirsL s.Points s.Points.length), I bend, I i, Bv true] [] [i < (((dirsL s.Points s.Points.length).length) : Int)] (by kernel_rfl) hB ⟨h3, trivial⟩ ?_
     refine ae_then ?_
     refine aw_true rfl ?_
     refine aw_skip ?_
     refine ae_then ?_
     refine aw_seq ?_
     refine aw_block ?_
     refine aw_reg [(10, .call [(true, I (at_ (dirsL s.Points s.Points.length) ((i - 1).toNat))), (true, I (at_ (dirsL s.Points s.Points.length) i.toNat))] true (I (bendI (at_ (dirsL s.Points s.Points.length) ((i - 1).toNat)) (at_ (dirsL s.Points s.Points.length) i.toNat))))] [0, 3, 4, 5, 6] [] [.ptr false [slPoint false s.Points], I (sumS s.Points s.Points.length), slI true (dirsL s.Points s.Points.length), I (bend + (bendI (at_ (dirsL s.Points s.Points.length) ((i - 1).toNat)) (at_ (dirsL s.Points s.Points.length) i.toNat))), I i] [] [inR .i64 (i - 1), (0 : Int) ≤ (i - 1) ∧ (i - 1) < (((dirsL s.Points s.Points.length).length) : Int), (0 : Int) ≤ i ∧ i < (((dirsL s.Points s.Points.length).length) : Int), Con Tryz.prog 72 [I (at_ (dirsL s.Points s.Points.length) ((i - 1).toNat)), I (at_ (dirsL s.Points s.Points.length) i.toNat)] true (I (bendI (at_ (dirsL s.Points s.Points.length) ((i - 1).toNat)) (at_ (dirsL s.Points s.Points.length) i.toNat))) ∧ ((I (at_ (dirsL s.Points s.Points.length) ((i - 1).toNat)) : AV) = I (at_ (dirsL s.Points s.Points.length) ((i - 1).toNat))) ∧ ((I (at_ (dirsL s.Points s.Points.length) i.toNat) : AV) = I (at_ (dirsL s.Points s.Points.length) i.toNat)) ∧ True, inR .i64 (bend + (bendI (at_ (dirsL s.Points s.Points.length) ((i - 1).toNat)) (at_ (dirsL s.Points s.Points.length) i.toNat)))] (by kernel_rfl) hB ⟨(inR_i64 (by omega) (by omega)), ⟨(by omega), (by omega)⟩, ⟨(by omega), (by omega)⟩, ⟨(l05Bend_ok (at_ (dirsL s.Points s.Points.length) ((i - 1).toNat)) (at_ (dirsL s.Points s.Points.length) i.toNat) (by omega) (by omega)), rfl, rfl, trivial⟩, (inR_i64 (by omega) (by omega)), trivial⟩ ?_
     refine ae_block 1 ?_
     refine ae_then ?_
     refine aw_reg [] [0, 3, 4, 5, 6] [] [.ptr false [slPoint false s.Points], I (sumS s.Points s.Points.length), slI true (dirsL s.Points s.Points.length), I (bend + (bendI (at_ (dirsL s.Points s.Points.length) ((i - 1).toNat)) (at_ (dirsL s.Points s.Points.length) i.toNat))), I (i + 1)] [] [inR .i64 (i + 1)] (by kernel_rfl) hB ⟨(inR_i64 (by omega) (by omega)), trivial⟩ ?_
     exact ae_again _ (by omega) ⟨(bend + (bendI (at_ (dirsL s.Points s.Points.length) ((i - 1).toNat)) (at_ (dirsL s.Points s.Points.length) i.toNat))), (i + 1), rfl, (by omega), (by rw [bendS_succ hb0.1, ← hb1] <;> first | rfl | (unfold bendI; omega)), (by first | omega | (unfold bendI at *; omega)), rfl⟩
    ·have hbt : bend = bendT s := by rw [hb1]; unfold bendT; by_cases e : i = 1; (subst e; rw [bendS_one _ _ (by omega), bendS_one _ _ (by omega)]); (congr 1; omega)
     refine aw_reg [(3, .dec false)] [0, 3, 4, 5, 6, 19] [] [.ptr false [slPoint false s.Points], I (sumS s.Points s.Points.length), slI true (dirsL s.Points s.Points.length), I bend, I i, Bv false] [] [¬ (i < (((dirsL s.Points s.Points.length).length) : Int))] (by kernel_rfl) hB ⟨h3, trivial⟩ ?_
     refine ae_then ?_
     refine aw_false rfl ?_
     refine aw_exit ?_
     refine ae_exit_then ?_
     refine ae_exit_then ?_
     refine ae_exit_same ?_
     refine ae_then ?_
     refine aw_seq ?_
     refine aw_seq ?_
     by_cases h4 : 6 ≤ (bend.natAbs : Int)
     ·by_cases h5 : (4 * (segI (at_ s.Points 0) (at_ s.Points (((s.Points.length : Int) - 1).toNat)))) ≤ (sumS s.Points s.Points.length)
      ·refine aw_reg [(1, .call [(true, I bend)] true (I (bend.natAbs : Int))), (2, .dec true), (22, .call [(true, agPoint (at_ s.Points 0)), (true, agPoint (at_ s.Points (((s.Points.length : Int) - 1).toNat)))] true (I (segI (at_ s.Points 0) (at_ s.Points (((s.Points.length : Int) - 1).toNat))))), (25, .dec true)] [0, 60] [] [.ptr false [slPoint false s.Points], Bv true] [] [Con Tryz.prog 73 [I bend] true (I (bend.natAbs : Int)) ∧ ((I bend : AV) = I bend) ∧ True, 6 ≤ (bend.natAbs : Int), (0 : Int) ≤ 0 ∧ 0 < (s.Points.length : Int), inR .i64 ((s.Points.length : Int) - 1), (0 : Int) ≤ ((s.Points.length : Int) - 1) ∧ ((s.Points.length : Int) - 1) < (s.Points.length : Int), Con Tryz.prog 74 [agPoint (at_ s.Points 0), agPoint (at_ s.Points (((s.Points.length : Int) - 1).toNat))] true (I (segI (at_ s.Points 0) (at_ s.Points (((s.Points.length : Int) - 1).toNat)))) ∧ ((agPoint (at_ s.Points 0) : AV) = agPoint (at_ s.Points 0)) ∧ ((agPoint (at_ s.Points (((s.Points.length : Int) - 1).toNat)) : AV) = agPoint (at_ s.Points (((s.Points.length : Int) - 1).toNat))) ∧ True, inR .i64 (4 * (segI (at_ s.Points 0) (at_ s.Points (((s.Points.length : Int) - 1).toNat)))), (4 * (segI (at_ s.Points 0) (at_ s.Points (((s.Points.length : Int) - 1).toNat)))) ≤ (sumS s.Points s.Points.length)] (by kernel_rfl) hB ⟨⟨(l05Size_ok bend (by omega)), rfl, trivial⟩, h4, ⟨(by omega), (by omega)⟩, (inR_i64 (by omega) (by omega)), ⟨(by omega), (by omega)⟩, ⟨(l05Length_ok (at_ s.Points 0) (at_ s.Points (((s.Points.length : Int) - 1).toNat)) (by assumption) (by assumption)), rfl, rfl, trivial⟩, (inR_i64 (by omega) (by omega)), h5, trivial⟩ ?_
       refine ae_then ?_
       refine aw_true rfl ?_
       refine aw_seq ?_
       refine aw_reg [] [2] [] [I 3] [] [] (by kernel_rfl) hB trivial ?_
       refine ae_then ?_
       refine aw_ret ?_
       refine ae_ret_then ?_
       refine ae_ret hB (I 3) (by kernel_rfl) (.inl (by refine congrArg I ?_; unfold gestI endsI; simp_all [hle]; try omega)) rfl (fun _ => trivial)
      ·refine aw_reg [(1, .call [(true, I bend)] true (I (bend.natAbs : Int))), (2, .dec true), (22, .call [(true, agPoint (at_ s.Points 0)), (true, agPoint (at_ s.Points (((s.Points.length : Int) - 1).toNat)))] true (I (segI (at_ s.Points 0) (at_ s.Points (((s.Points.length : Int) - 1).toNat))))), (25, .dec false)] [0, 60] [] [.ptr false [slPoint false s.Points], Bv false] [] [Con Tryz.prog 73 [I bend] true (I (bend.natAbs : Int)) ∧ ((I bend : AV) = I bend) ∧ True, 6 ≤ (bend.natAbs : Int), (0 : Int) ≤ 0 ∧ 0 < (s.Points.length : Int), inR .i64 ((s.Points.length : Int) - 1), (0 : Int) ≤ ((s.Points.length : Int) - 1) ∧ ((s.Points.length : Int) - 1) < (s.Points.length : Int), Con Tryz.prog 74 [agPoint (at_ s.Points 0), agPoint (at_ s.Points (((s.Points.length : Int) - 1).toNat))] true (I (segI (at_ s.Points 0) (at_ s.Points (((s.Points.length : Int) - 1).toNat)))) ∧ ((agPoint (at_ s.Points 0) : AV) = agPoint (at_ s.Points 0)) ∧ ((agPoint (at_ s.Points (((s.Points.length : Int) - 1).toNat)) : AV) = agPoint (at_ s.Points (((s.Points.length : Int) - 1).toNat))) ∧ True, inR .i64 (4 * (segI (at_ s.Points 0) (at_ s.Points (((s.Points.length : Int) - 1).toNat)))), ¬ ((4 * (segI (at_ s.Points 0) (at_ s.Points (((s.Points.length : Int) - 1).toNat)))) ≤ (sumS s.Points s.Points.length))] (by kernel_rfl) hB ⟨⟨(l05Size_ok bend (by omega)), rfl, trivial⟩, h4, ⟨(by omega), (by omega)⟩, (inR_i64 (by omega) (by omega)), ⟨(by omega), (by omega)⟩, ⟨(l05Length_ok (at_ s.Points 0) (at_ s.Points (((s.Points.length : Int) - 1).toNat)) (by assumption) (by assumption)), rfl, rfl, trivial⟩, (inR_i64 (by omega) (by omega)), h5, trivial⟩ ?_
       refine ae_then ?_
       refine aw_false rfl ?_
       refine aw_skip ?_
       refine ae_then ?_
       refine aw_seq ?_
       refine aw_seq ?_
       rcases Bool.eq_false_or_eq_true (caretB s) with h6 | h6
       ·refine aw_reg [(1, .call [(true, .ptr false [slPoint false s.Points])] true (Bv true))] [0, 62] [] [.ptr false [slPoint false s.Points], Bv true] [] [Con Tryz.prog 75 [.ptr false [slPoint false s.Points]] true (Bv true) ∧ ((.ptr false [slPoint false s.Points] : AV) = .ptr false [slPoint false s.Points]) ∧ True] (by kernel_rfl) hB ⟨⟨(con_bool h6 (l23Caret_ok s ok)), rfl, trivial⟩, trivial⟩ ?_
        refine ae_then ?_
        refine aw_true rfl ?_
        refine aw_seq ?_
        refine aw_reg [] [2] [] [I 4] [] [] (by kernel_rfl) hB trivial ?_
        refine ae_then ?_
        refine aw_ret ?_
        refine ae_ret_then ?_
        refine ae_ret hB (I 4) (by kernel_rfl) (.inl (by refine congrArg I ?_; unfold gestI endsI; simp_all [hle]; try omega)) rfl (fun _ => trivial)
       ·refine aw_reg [(1, .call [(true, .ptr false [slPoint false s.Points])] true (Bv false))] [0, 62] [] [.ptr false [slPoint false s.Points], Bv false] [] [Con Tryz.prog 75 [.ptr false [slPoint false s.Points]] true (Bv false) ∧ ((.ptr false [slPoint false s.Points] : AV) = .ptr false [slPoint false s.Points]) ∧ True] (by kernel_rfl) hB ⟨⟨(con_bool h6 (l23Caret_ok s ok)), rfl, trivial⟩, trivial⟩ ?_
        refine ae_then ?_
        refine aw_false rfl ?_
        refine aw_skip ?_
        refine ae_then ?_
        refine aw_seq ?_
        refine aw_seq ?_
        by_cases h7 : 900 ≤ (strI s)
        ·refine aw_reg [(1, .call [(true, .ptr false [slPoint false s.Points])] true (I (strI s))), (2, .dec true)] [65] [] [Bv true] [] [Con Tryz.prog 76 [.ptr false [slPoint false s.Points]] true (I (strI s)) ∧ ((.ptr false [slPoint false s.Points] : AV) = .ptr false [slPoint false s.Points]) ∧ True, 900 ≤ (strI s)] (by kernel_rfl) hB ⟨⟨(l05Straight_ok s ok), rfl, trivial⟩, h7, trivial⟩ ?_
         refine ae_then ?_
         refine aw_true rfl ?_
         refine aw_seq ?_
         refine aw_reg [] [2] [] [I 5] [] [] (by kernel_rfl) hB trivial ?_
         refine ae_then ?_
         refine aw_ret ?_
         refine ae_ret_then ?_
         refine ae_ret hB (I 5) (by kernel_rfl) (.inl (by refine congrArg I ?_; unfold gestI endsI; simp_all [hle]; try omega)) rfl (fun _ => trivial)
        ·refine aw_reg [(1, .call [(true, .ptr false [slPoint false s.Points])] true (I (strI s))), (2, .dec false)] [65] [] [Bv false] [] [Con Tryz.prog 76 [.ptr false [slPoint false s.Points]] true (I (strI s)) ∧ ((.ptr false [slPoint false s.Points] : AV) = .ptr false [slPoint false s.Points]) ∧ True, ¬ (900 ≤ (strI s))] (by kernel_rfl) hB ⟨⟨(l05Straight_ok s ok), rfl, trivial⟩, h7, trivial⟩ ?_
         refine ae_then ?_
         refine aw_false rfl ?_
         refine aw_skip ?_
         refine ae_then ?_
         refine aw_seq ?_
         refine aw_reg [] [2] [] [I 0] [] [] (by kernel_rfl) hB trivial ?_
         refine ae_then ?_
         refine aw_ret ?_
         refine ae_ret hB (I 0) (by kernel_rfl) (.inl (by refine congrArg I ?_; unfold gestI endsI; simp_all [hle]; try omega)) rfl (fun _ => trivial)
     ·refine aw_reg [(1, .call [(true, I bend)] true (I (bend.natAbs : Int))), (2, .dec false)] [0, 60] [] [.ptr false [slPoint false s.Points], Bv false] [] [Con Tryz.prog 73 [I bend] true (I (bend.natAbs : Int)) ∧ ((I bend : AV) = I bend) ∧ True, ¬ (6 ≤ (bend.natAbs : Int))] (by kernel_rfl) hB ⟨⟨(l05Size_ok bend (by omega)), rfl, trivial⟩, h4, trivial⟩ ?_
      refine ae_then ?_
      refine aw_false rfl ?_
      refine aw_skip ?_
      refine ae_then ?_
      refine aw_seq ?_
      refine aw_seq ?_
      rcases Bool.eq_false_or_eq_true (caretB s) with h8 | h8
      ·refine aw_reg [(1, .call [(true, .ptr false [slPoint false s.Points])] true (Bv true))] [0, 62] [] [.ptr false [slPoint false s.Points], Bv true] [] [Con Tryz.prog 75 [.ptr false [slPoint false s.Points]] true (Bv true) ∧ ((.ptr false [slPoint false s.Points] : AV) = .ptr false [slPoint false s.Points]) ∧ True] (by kernel_rfl) hB ⟨⟨(con_bool h8 (l23Caret_ok s ok)), rfl, trivial⟩, trivial⟩ ?_
       refine ae_then ?_
       refine aw_true rfl ?_
       refine aw_seq ?_
       refine aw_reg [] [2] [] [I 4] [] [] (by kernel_rfl) hB trivial ?_
       refine ae_then ?_
       refine aw_ret ?_
       refine ae_ret_then ?_
       refine ae_ret hB (I 4) (by kernel_rfl) (.inl (by refine congrArg I ?_; unfold gestI endsI; simp_all [hle]; try omega)) rfl (fun _ => trivial)
      ·refine aw_reg [(1, .call [(true, .ptr false [slPoint false s.Points])] true (Bv false))] [0, 62] [] [.ptr false [slPoint false s.Points], Bv false] [] [Con Tryz.prog 75 [.ptr false [slPoint false s.Points]] true (Bv false) ∧ ((.ptr false [slPoint false s.Points] : AV) = .ptr false [slPoint false s.Points]) ∧ True] (by kernel_rfl) hB ⟨⟨(con_bool h8 (l23Caret_ok s ok)), rfl, trivial⟩, trivial⟩ ?_
       refine ae_then ?_
       refine aw_false rfl ?_
       refine aw_skip ?_
       refine ae_then ?_
       refine aw_seq ?_
       refine aw_seq ?_
       by_cases h9 : 900 ≤ (strI s)
       ·refine aw_reg [(1, .call [(true, .ptr false [slPoint false s.Points])] true (I (strI s))), (2, .dec true)] [65] [] [Bv true] [] [Con Tryz.prog 76 [.ptr false [slPoint false s.Points]] true (I (strI s)) ∧ ((.ptr false [slPoint false s.Points] : AV) = .ptr false [slPoint false s.Points]) ∧ True, 900 ≤ (strI s)] (by kernel_rfl) hB ⟨⟨(l05Straight_ok s ok), rfl, trivial⟩, h9, trivial⟩ ?_
        refine ae_then ?_
        refine aw_true rfl ?_
        refine aw_seq ?_
        refine aw_reg [] [2] [] [I 5] [] [] (by kernel_rfl) hB trivial ?_
        refine ae_then ?_
        refine aw_ret ?_
        refine ae_ret_then ?_
        refine ae_ret hB (I 5) (by kernel_rfl) (.inl (by refine congrArg I ?_; unfold gestI endsI; simp_all [hle]; try omega)) rfl (fun _ => trivial)
       ·refine aw_reg [(1, .call [(true, .ptr false [slPoint false s.Points])] true (I (strI s))), (2, .dec false)] [65] [] [Bv false] [] [Con Tryz.prog 76 [.ptr false [slPoint false s.Points]] true (I (strI s)) ∧ ((.ptr false [slPoint false s.Points] : AV) = .ptr false [slPoint false s.Points]) ∧ True, ¬ (900 ≤ (strI s))] (by kernel_rfl) hB ⟨⟨(l05Straight_ok s ok), rfl, trivial⟩, h9, trivial⟩ ?_
        refine ae_then ?_
        refine aw_false rfl ?_
        refine aw_skip ?_
        refine ae_then ?_
        refine aw_seq ?_
        refine aw_reg [] [2] [] [I 0] [] [] (by kernel_rfl) hB trivial ?_
        refine ae_then ?_
        refine aw_ret ?_
        refine ae_ret hB (I 0) (by kernel_rfl) (.inl (by refine congrArg I ?_; unfold gestI endsI; simp_all [hle]; try omega)) rfl (fun _ => trivial)


-- spec.l23Tip
theorem l23Tip_ok (s : Stroke) (ok : okStroke' s = true) : Con Tryz.prog 85 [.ptr false [slPoint false s.Points]] true (I (tipS s.Points s.Points.length : Int)) := by
  have hln := okS_len ok
  refine fn_ok (fn := Tryz.f85) (nt := 33) Tryz.func85 rfl rfl rfl rfl (by simp [taggedL, tagged, tagPoint]) fun B hB => ?_
  refine aw_lens (x := .ptr false [slPoint false s.Points]) 0 rfl (fun len_s => ?_)
  simp [LenOK, LenL, cPoint, fPoint, slPoint] at len_s
  refine aw_seq ?_
  refine aw_reg [] [0] [] [.ptr false [slPoint false s.Points]] [] [] (by kernel_rfl) hB trivial ?_
  refine ae_then ?_
  refine aw_seq ?_
  refine aw_reg [] [0, 3] [] [.ptr false [slPoint false s.Points], I 0] [] [] (by kernel_rfl) hB trivial ?_
  refine ae_then ?_
  refine aw_seq ?_
  refine aw_seq ?_
  refine aw_reg [] [0, 3, 4] [] [.ptr false [slPoint false s.Points], I 0, I 1] [] [] (by kernel_rfl) hB trivial ?_
  refine ae_then ?_
  refine aw_block ?_
  refine aw_loop (fun gn gσ => ∃ (best : Int) (i : Int), gn = ((s.Points.length : Int) - i).toNat ∧ (1 ≤ i ∧ i ≤ (s.Points.length : Int)) ∧ (best = (tipS s.Points i.toNat : Int)) ∧ (0 ≤ best ∧ best < (s.Points.length : Int)) ∧ gσ = mkS [(0, .ptr false [slPoint false s.Points]), (3, I best), (4, I i)] []) (((s.Points.length : Int) - 1).toNat) ⟨0, 1, rfl, (by omega), (by rw [show (1 : Int).toNat = 1 from rfl, tip_one]; rfl), (by omega), rfl⟩ (fun gn gσ hI => ?_)
  obtain ⟨best, i, rfl, hi0, ht1, ht2, rfl⟩ := hI
  refine aw_seq ?_
  refine aw_seq ?_
  by_cases h1 : i < (s.Points.length : Int)
  ·have hi : i.toNat < s.Points.length := by omega
   have hi2 : best.toNat < s.Points.length := by omega
   refine aw_reg [(6, .dec true)] [0, 3, 4, 11] [] [.ptr false [slPoint false s.Points], I best, I i, Bv true] [] [i < (s.Points.length : Int)] (by kernel_rfl) hB ⟨h1, trivial⟩ ?_
   refine ae_then ?_
   refine aw_true rfl ?_
   refine aw_skip ?_
   refine ae_then ?_
   refine aw_seq ?_
   refine aw_block ?_
   refine aw_seq ?_
   by_cases h2 : ((at_ s.Points i.toNat).Y) < ((at_ s.Points best.toNat).Y)
   ·refine aw_reg [(16, .dec true)] [0, 3, 4, 30] [] [.ptr false [slPoint false s.Points], I best, I i, Bv true] [] [(0 : Int) ≤ i ∧ i < (s.Points.length : Int), (0 : Int) ≤ best ∧ best < (s.Points.length : Int), ((at_ s.Points i.toNat).Y) < ((at_ s.Points best.toNat).Y)] (by kernel_rfl) hB ⟨⟨(by omega), (by omega)⟩, ⟨(by omega), (by omega)⟩, h2, trivial⟩ ?_
    refine ae_then ?_
    refine aw_true rfl ?_
    refine aw_reg [] [0, 3, 4] [] [.ptr false [slPoint false s.Points], I i, I i] [] [] (by kernel_rfl) hB trivial ?_
    refine ae_block 1 ?_
    refine ae_then ?_
    refine aw_reg [] [0, 3, 4] [] [.ptr false [slPoint false s.Points], I i, I (i + 1)] [] [inR .i64 (i + 1)] (by kernel_rfl) hB ⟨(inR_i64 (by omega) (by omega)), trivial⟩ ?_
    exact ae_again _ (by omega) ⟨i, (i + 1), rfl, (by omega), (by rw [tip_1 (by omega) ht1]; first | (rw [if_pos (by assumption)]; done) | (rw [if_neg (by assumption)]; done)), (by omega), rfl⟩
   ·refine aw_reg [(16, .dec false)] [0, 3, 4, 30] [] [.ptr false [slPoint false s.Points], I best, I i, Bv false] [] [(0 : Int) ≤ i ∧ i < (s.Points.length : Int), (0 : Int) ≤ best ∧ best < (s.Points.length : Int), ¬ (((at_ s.Points i.toNat).Y) < ((at_ s.Points best.toNat).Y))] (by kernel_rfl) hB ⟨⟨(by omega), (by omega)⟩, ⟨(by omega), (by omega)⟩, h2, trivial⟩ ?_
    refine ae_then ?_
    refine aw_false rfl ?_
    refine aw_skip ?_
    refine ae_block 1 ?_
    refine ae_then ?_
    refine aw_reg [] [0, 3, 4] [] [.ptr false [slPoint false s.Points], I best, I (i + 1)] [] [inR .i64 (i + 1)] (by kernel_rfl) hB ⟨(inR_i64 (by omega) (by omega)), trivial⟩ ?_
    exact ae_again _ (by omega) ⟨best, (i + 1), rfl, (by omega), (by rw [tip_1 (by omega) ht1]; first | (rw [if_pos (by assumption)]; done) | (rw [if_neg (by assumption)]; done)), (by omega), rfl⟩
  ·have hie : i.toNat = s.Points.length := by omega
   rw [hie] at ht1
   refine aw_reg [(6, .dec false)] [0, 3, 4, 11] [] [.ptr false [slPoint false s.Points], I best, I i, Bv false] [] [¬ (i < (s.Points.length : Int))] (by kernel_rfl) hB ⟨h1, trivial⟩ ?_
   refine ae_then ?_
   refine aw_false rfl ?_
   refine aw_exit ?_
   refine ae_exit_then ?_
   refine ae_exit_then ?_
   refine ae_exit_same ?_
   refine ae_then ?_
   refine aw_seq ?_
   refine aw_reg [] [2] [] [I best] [] [] (by kernel_rfl) hB trivial ?_
   refine ae_then ?_
   refine aw_ret ?_
   refine ae_ret hB (I best) (by kernel_rfl) (.inl (by rw [ht1])) rfl (fun _ => trivial)


-- spec.l23Place
theorem l23Place_ok (l : CellRow) (x : Int) (hr0 : okRow l = true) (hx : 0 ≤ x ∧ x ≤ 4095) : Con Tryz.prog 84 [.ptr false [Sv l.Text, I l.X, I l.Y, I l.Cell], I x] true (I (placeS l x l.Text.size)) := by
  have hr := okRow_iff.1 hr0
  refine fn_ok (fn := Tryz.f84) (nt := 47) Tryz.func84 rfl rfl rfl rfl (by simp [taggedL, tagged]) fun B hB => ?_
  refine aw_seq ?_
  refine aw_reg [] [0, 1] [] [.ptr false [Sv l.Text, I l.X, I l.Y, I l.Cell], I x] [] [] (by kernel_rfl) hB trivial ?_
  refine ae_then ?_
  refine aw_seq ?_
  refine aw_reg [] [0, 1, 5] [] [.ptr false [Sv l.Text, I l.X, I l.Y, I l.Cell], I x, I 0] [] [] (by kernel_rfl) hB trivial ?_
  refine ae_then ?_
  refine aw_seq ?_
  refine aw_seq ?_
  refine aw_reg [] [0, 1, 5, 6] [] [.ptr false [Sv l.Text, I l.X, I l.Y, I l.Cell], I x, I 0, I 1] [] [] (by kernel_rfl) hB trivial ?_
  refine ae_then ?_
  refine aw_block ?_
  refine aw_loop (fun gn gσ => ∃ (best : Int) (k : Int), gn = ((l.Text.size : Int) + 1 - k).toNat ∧ (1 ≤ k ∧ k ≤ (l.Text.size : Int) + 1) ∧ (best = placeS l x (k - 1).toNat) ∧ (0 ≤ best ∧ best ≤ k - 1) ∧ gσ = mkS [(0, .ptr false [Sv l.Text, I l.X, I l.Y, I l.Cell]), (1, I x), (5, I best), (6, I k)] []) (((l.Text.size : Int) + 1 - 1).toNat) ⟨0, 1, rfl, (by omega), (by rfl), (by omega), rfl⟩ (fun gn gσ hI => ?_)
  obtain ⟨best, k, rfl, hq0, hp1, hp2, rfl⟩ := hI
  refine aw_seq ?_
  refine aw_seq ?_
  by_cases h1 : k ≤ (l.Text.size : Int)
  ·have hkb := mul60 (a := k) (c := l.Cell) (by omega) (by omega)
   have hbb := mul60 (a := best) (c := l.Cell) (by omega) (by omega)
   refine aw_reg [(6, .dec true)] [0, 1, 5, 6, 13] [] [.ptr false [Sv l.Text, I l.X, I l.Y, I l.Cell], I x, I best, I k, Bv true] [] [k ≤ (l.Text.size : Int)] (by kernel_rfl) hB ⟨h1, trivial⟩ ?_
   refine ae_then ?_
   refine aw_true rfl ?_
   refine aw_skip ?_
   refine ae_then ?_
   refine aw_seq ?_
   refine aw_block ?_
   refine aw_seq ?_
   by_cases h2 : (((x - l.X) - (k * l.Cell)).natAbs : Int) < (((x - l.X) - (best * l.Cell)).natAbs : Int)
   ·refine aw_reg [(13, .call [(true, I ((x - l.X) - (k * l.Cell)))] true (I (((x - l.X) - (k * l.Cell)).natAbs : Int))), (27, .call [(true, I ((x - l.X) - (best * l.Cell)))] true (I (((x - l.X) - (best * l.Cell)).natAbs : Int))), (28, .dec true)] [0, 1, 5, 6, 44] [] [.ptr false [Sv l.Text, I l.X, I l.Y, I l.Cell], I x, I best, I k, Bv true] [] [inR .i64 (x - l.X), inR .i64 (k * l.Cell), inR .i64 ((x - l.X) - (k * l.Cell)), Con Tryz.prog 73 [I ((x - l.X) - (k * l.Cell))] true (I (((x - l.X) - (k * l.Cell)).natAbs : Int)) ∧ ((I ((x - l.X) - (k * l.Cell)) : AV) = I ((x - l.X) - (k * l.Cell))) ∧ True, inR .i64 (x - l.X), inR .i64 (best * l.Cell), inR .i64 ((x - l.X) - (best * l.Cell)), Con Tryz.prog 73 [I ((x - l.X) - (best * l.Cell))] true (I (((x - l.X) - (best * l.Cell)).natAbs : Int)) ∧ ((I ((x - l.X) - (best * l.Cell)) : AV) = I ((x - l.X) - (best * l.Cell))) ∧ True, (((x - l.X) - (k * l.Cell)).natAbs : Int) < (((x - l.X) - (best * l.Cell)).natAbs : Int)] (by kernel_rfl) hB ⟨(inR_i64 (by omega) (by omega)), (inR_i64 (by omega) (by omega)), (inR_i64 (by omega) (by omega)), ⟨(l05Size_ok ((x - l.X) - (k * l.Cell)) (by omega)), rfl, trivial⟩, (inR_i64 (by omega) (by omega)), (inR_i64 (by omega) (by omega)), (inR_i64 (by omega) (by omega)), ⟨(l05Size_ok ((x - l.X) - (best * l.Cell)) (by omega)), rfl, trivial⟩, h2, trivial⟩ ?_
    refine ae_then ?_
    refine aw_true rfl ?_
    refine aw_reg [] [0, 1, 5, 6] [] [.ptr false [Sv l.Text, I l.X, I l.Y, I l.Cell], I x, I k, I k] [] [] (by kernel_rfl) hB trivial ?_
    refine ae_block 1 ?_
    refine ae_then ?_
    refine aw_reg [] [0, 1, 5, 6] [] [.ptr false [Sv l.Text, I l.X, I l.Y, I l.Cell], I x, I k, I (k + 1)] [] [inR .i64 (k + 1)] (by kernel_rfl) hB ⟨(inR_i64 (by omega) (by omega)), trivial⟩ ?_
    exact ae_again _ (by omega) ⟨k, (k + 1), rfl, (by omega), (by rw [placeS_succ hq0.1, ← hp1]; first | rfl | (rw [if_pos (by omega)]; done) | (rw [if_neg (by omega)]; done)), (by omega), rfl⟩
   ·refine aw_reg [(13, .call [(true, I ((x - l.X) - (k * l.Cell)))] true (I (((x - l.X) - (k * l.Cell)).natAbs : Int))), (27, .call [(true, I ((x - l.X) - (best * l.Cell)))] true (I (((x - l.X) - (best * l.Cell)).natAbs : Int))), (28, .dec false)] [0, 1, 5, 6, 44] [] [.ptr false [Sv l.Text, I l.X, I l.Y, I l.Cell], I x, I best, I k, Bv false] [] [inR .i64 (x - l.X), inR .i64 (k * l.Cell), inR .i64 ((x - l.X) - (k * l.Cell)), Con Tryz.prog 73 [I ((x - l.X) - (k * l.Cell))] true (I (((x - l.X) - (k * l.Cell)).natAbs : Int)) ∧ ((I ((x - l.X) - (k * l.Cell)) : AV) = I ((x - l.X) - (k * l.Cell))) ∧ True, inR .i64 (x - l.X), inR .i64 (best * l.Cell), inR .i64 ((x - l.X) - (best * l.Cell)), Con Tryz.prog 73 [I ((x - l.X) - (best * l.Cell))] true (I (((x - l.X) - (best * l.Cell)).natAbs : Int)) ∧ ((I ((x - l.X) - (best * l.Cell)) : AV) = I ((x - l.X) - (best * l.Cell))) ∧ True, ¬ ((((x - l.X) - (k * l.Cell)).natAbs : Int) < (((x - l.X) - (best * l.Cell)).natAbs : Int))] (by kernel_rfl) hB ⟨(inR_i64 (by omega) (by omega)), (inR_i64 (by omega) (by omega)), (inR_i64 (by omega) (by omega)), ⟨(l05Size_ok ((x - l.X) - (k * l.Cell)) (by omega)), rfl, trivial⟩, (inR_i64 (by omega) (by omega)), (inR_i64 (by omega) (by omega)), (inR_i64 (by omega) (by omega)), ⟨(l05Size_ok ((x - l.X) - (best * l.Cell)) (by omega)), rfl, trivial⟩, h2, trivial⟩ ?_
    refine ae_then ?_
    refine aw_false rfl ?_
    refine aw_skip ?_
    refine ae_block 1 ?_
    refine ae_then ?_
    refine aw_reg [] [0, 1, 5, 6] [] [.ptr false [Sv l.Text, I l.X, I l.Y, I l.Cell], I x, I best, I (k + 1)] [] [inR .i64 (k + 1)] (by kernel_rfl) hB ⟨(inR_i64 (by omega) (by omega)), trivial⟩ ?_
    exact ae_again _ (by omega) ⟨best, (k + 1), rfl, (by omega), (by rw [placeS_succ hq0.1, ← hp1]; first | rfl | (rw [if_pos (by omega)]; done) | (rw [if_neg (by omega)]; done)), (by omega), rfl⟩
  ·have hie : (k - 1).toNat = l.Text.size := by omega
   rw [hie] at hp1
   refine aw_reg [(6, .dec false)] [0, 1, 5, 6, 13] [] [.ptr false [Sv l.Text, I l.X, I l.Y, I l.Cell], I x, I best, I k, Bv false] [] [¬ (k ≤ (l.Text.size : Int))] (by kernel_rfl) hB ⟨h1, trivial⟩ ?_
   refine ae_then ?_
   refine aw_false rfl ?_
   refine aw_exit ?_
   refine ae_exit_then ?_
   refine ae_exit_then ?_
   refine ae_exit_same ?_
   refine ae_then ?_
   refine aw_seq ?_
   refine aw_reg [] [4] [] [I best] [] [] (by kernel_rfl) hB trivial ?_
   refine ae_then ?_
   refine aw_ret ?_
   refine ae_ret hB (I best) (by kernel_rfl) (.inl (by rw [hp1])) rfl (fun _ => trivial)


-- spec.l23Span
theorem l23Span_ok (l : CellRow) (b : Box) (hr0 : okRow l = true) (hb : (0 ≤ b.X1 ∧ b.X1 ≤ 4095) ∧ 0 ≤ b.X2 ∧ b.X2 ≤ 4095) : Con Tryz.prog 86 [.ptr false [Sv l.Text, I l.X, I l.Y, I l.Cell], agBox b] true (.tup [I ((spanS l b l.Text.size).1), I ((spanS l b l.Text.size).2)]) := by
  have hr := okRow_iff.1 hr0
  refine fn_ok (fn := Tryz.f86) (nt := 49) Tryz.func86 rfl rfl rfl rfl (by simp [taggedL, tagged]) fun B hB => ?_
  refine aw_seq ?_
  refine aw_reg [(0, .new 3)] [0, 3] [3] [.ptr false [Sv l.Text, I l.X, I l.Y, I l.Cell], .ref 3 0] [some (bxBox b)] [] (by kernel_rfl) hB trivial ?_
  refine ae_then ?_
  refine aw_seq ?_
  refine aw_reg [] [0, 3, 6] [3] [.ptr false [Sv l.Text, I l.X, I l.Y, I l.Cell], .ref 3 0, I 0] [some (bxBox b)] [] (by kernel_rfl) hB trivial ?_
  refine ae_then ?_
  refine aw_seq ?_
  refine aw_reg [] [0, 3, 6, 7] [3] [.ptr false [Sv l.Text, I l.X, I l.Y, I l.Cell], .ref 3 0, I 0, I 0] [some (bxBox b)] [] (by kernel_rfl) hB trivial ?_
  refine ae_then ?_
  refine aw_seq ?_
  refine aw_seq ?_
  refine aw_reg [] [0, 3, 6, 7, 8] [3] [.ptr false [Sv l.Text, I l.X, I l.Y, I l.Cell], .ref 3 0, I 0, I 0, I 0] [some (bxBox b)] [] (by kernel_rfl) hB trivial ?_
  refine ae_then ?_
  refine aw_block ?_
  refine aw_loop (fun gn gσ => ∃ (fr_ : Int) (to_ : Int) (k : Int), gn = ((l.Text.size : Int) - k).toNat ∧ (0 ≤ k ∧ k ≤ (l.Text.size : Int)) ∧ (fr_ = (spanS l b k.toNat).1) ∧ (to_ = (spanS l b k.toNat).2) ∧ (0 ≤ to_ ∧ to_ ≤ k) ∧ gσ = mkS [(0, .ptr false [Sv l.Text, I l.X, I l.Y, I l.Cell]), (3, .ref 3 0), (6, I fr_), (7, I to_), (8, I k)] [(3, bxBox b)]) (((l.Text.size : Int) - 0).toNat) ⟨0, 0, 0, rfl, (by omega), (by rfl), (by rfl), (by omega), rfl⟩ (fun gn gσ hI => ?_)
  obtain ⟨fr_, to_, k, rfl, hi0, hs1, hs2, hs3, rfl⟩ := hI
  refine aw_seq ?_
  refine aw_seq ?_
  by_cases h1 : k < (l.Text.size : Int)
  ·have hkb := mul60 (a := k) (c := l.Cell) (by omega) (by omega)
   have hme := mid_eq k l.Cell
   have he : (2 * (l.X + k * l.Cell)) + l.Cell = 2 * l.X + (2 * k + 1) * l.Cell := by omega
   refine aw_reg [(6, .dec true)] [0, 3, 6, 7, 8, 16] [3] [.ptr false [Sv l.Text, I l.X, I l.Y, I l.Cell], .ref 3 0, I fr_, I to_, I k, Bv true] [some (bxBox b)] [k < (l.Text.size : Int)] (by kernel_rfl) hB ⟨h1, trivial⟩ ?_
   refine ae_then ?_
   refine aw_true rfl ?_
   refine aw_skip ?_
   refine ae_then ?_
   refine aw_seq ?_
   refine aw_block ?_
   refine aw_seq ?_
   refine aw_reg [] [0, 3, 6, 7, 8, 9] [3] [.ptr false [Sv l.Text, I l.X, I l.Y, I l.Cell], .ref 3 0, I fr_, I to_, I k, I ((2 * l.X) + (((2 * k) + 1) * l.Cell))] [some (bxBox b)] [inR .i64 (2 * l.X), inR .i64 (2 * k), inR .i64 ((2 * k) + 1), inR .i64 (((2 * k) + 1) * l.Cell), inR .i64 ((2 * l.X) + (((2 * k) + 1) * l.Cell))] (by kernel_rfl) hB ⟨(inR_i64 (by omega) (by omega)), (inR_i64 (by omega) (by omega)), (inR_i64 (by omega) (by omega)), (inR_i64 (by omega) (by omega)), (inR_i64 (by omega) (by omega)), trivial⟩ ?_
   refine ae_then ?_
   refine aw_seq ?_
   refine aw_seq ?_
   rcases Bool.eq_false_or_eq_true (inB ((2 * l.X) + (((2 * k) + 1) * l.Cell)) (2 * b.X1) (2 * b.X2)) with h2 | h2
   ·refine aw_reg [(7, .call [(true, I ((2 * l.X) + (((2 * k) + 1) * l.Cell))), (true, I (2 * b.X1)), (true, I (2 * b.X2))] true (Bv true))] [0, 3, 6, 7, 8, 41] [3] [.ptr false [Sv l.Text, I l.X, I l.Y, I l.Cell], .ref 3 0, I fr_, I to_, I k, Bv false] [some (bxBox b)] [inR .i64 (2 * b.X1), inR .i64 (2 * b.X2), Con Tryz.prog 46 [I ((2 * l.X) + (((2 * k) + 1) * l.Cell)), I (2 * b.X1), I (2 * b.X2)] true (Bv true) ∧ ((I ((2 * l.X) + (((2 * k) + 1) * l.Cell)) : AV) = I ((2 * l.X) + (((2 * k) + 1) * l.Cell))) ∧ ((I (2 * b.X1) : AV) = I (2 * b.X1)) ∧ ((I (2 * b.X2) : AV) = I (2 * b.X2)) ∧ True] (by kernel_rfl) hB ⟨(inR_i64 (by omega) (by omega)), (inR_i64 (by omega) (by omega)), ⟨(con_bool h2 (l00In_ok ((2 * l.X) + (((2 * k) + 1) * l.Cell)) (2 * b.X1) (2 * b.X2))), rfl, rfl, rfl, trivial⟩, trivial⟩ ?_
    refine ae_then ?_
    refine aw_false rfl ?_
    refine aw_skip ?_
    refine ae_then ?_
    refine aw_seq ?_
    refine aw_seq ?_
    by_cases h3 : to_ = 0
    ·refine aw_reg [(1, .dec true)] [0, 3, 6, 8, 43] [3] [.ptr false [Sv l.Text, I l.X, I l.Y, I l.Cell], .ref 3 0, I fr_, I k, Bv true] [some (bxBox b)] [to_ = 0] (by kernel_rfl) hB ⟨h3, trivial⟩ ?_
     refine ae_then ?_
     refine aw_true rfl ?_
     refine aw_reg [] [0, 3, 6, 8] [3] [.ptr false [Sv l.Text, I l.X, I l.Y, I l.Cell], .ref 3 0, I k, I k] [some (bxBox b)] [] (by kernel_rfl) hB trivial ?_
     refine ae_then ?_
     refine aw_reg [] [0, 3, 6, 7, 8] [3] [.ptr false [Sv l.Text, I l.X, I l.Y, I l.Cell], .ref 3 0, I k, I (k + 1), I k] [some (bxBox b)] [inR .i64 (k + 1)] (by kernel_rfl) hB ⟨(inR_i64 (by omega) (by omega)), trivial⟩ ?_
     refine ae_block 1 ?_
     refine ae_then ?_
     refine aw_reg [] [0, 3, 6, 7, 8] [3] [.ptr false [Sv l.Text, I l.X, I l.Y, I l.Cell], .ref 3 0, I k, I (k + 1), I (k + 1)] [some (bxBox b)] [inR .i64 (k + 1)] (by kernel_rfl) hB ⟨(inR_i64 (by omega) (by omega)), trivial⟩ ?_
     exact ae_again _ (by omega) ⟨k, (k + 1), (k + 1), rfl, (by omega), (by first | (rw [spanS_yes hi0.1 (by assumption), ← hs1, ← hs2]; first | (simp only [if_pos (by assumption : to_ = 0)]; done) | (simp only [if_neg (by assumption : ¬ to_ = 0)]; done)) | (rw [spanS_no hi0.1 (by assumption), ← hs1])), (by first | (rw [spanS_yes hi0.1 (by assumption)]; done) | (rw [spanS_no hi0.1 (by assumption), ← hs2])), (by omega), rfl⟩
    ·refine aw_reg [(1, .dec false)] [0, 3, 6, 8, 43] [3] [.ptr false [Sv l.Text, I l.X, I l.Y, I l.Cell], .ref 3 0, I fr_, I k, Bv false] [some (bxBox b)] [¬ (to_ = 0)] (by kernel_rfl) hB ⟨h3, trivial⟩ ?_
     refine ae_then ?_
     refine aw_false rfl ?_
     refine aw_skip ?_
     refine ae_then ?_
     refine aw_reg [] [0, 3, 6, 7, 8] [3] [.ptr false [Sv l.Text, I l.X, I l.Y, I l.Cell], .ref 3 0, I fr_, I (k + 1), I k] [some (bxBox b)] [inR .i64 (k + 1)] (by kernel_rfl) hB ⟨(inR_i64 (by omega) (by omega)), trivial⟩ ?_
     refine ae_block 1 ?_
     refine ae_then ?_
     refine aw_reg [] [0, 3, 6, 7, 8] [3] [.ptr false [Sv l.Text, I l.X, I l.Y, I l.Cell], .ref 3 0, I fr_, I (k + 1), I (k + 1)] [some (bxBox b)] [inR .i64 (k + 1)] (by kernel_rfl) hB ⟨(inR_i64 (by omega) (by omega)), trivial⟩ ?_
     exact ae_again _ (by omega) ⟨fr_, (k + 1), (k + 1), rfl, (by omega), (by first | (rw [spanS_yes hi0.1 (by assumption), ← hs1, ← hs2]; first | (simp only [if_pos (by assumption : to_ = 0)]; done) | (simp only [if_neg (by assumption : ¬ to_ = 0)]; done)) | (rw [spanS_no hi0.1 (by assumption), ← hs1])), (by first | (rw [spanS_yes hi0.1 (by assumption)]; done) | (rw [spanS_no hi0.1 (by assumption), ← hs2])), (by omega), rfl⟩
   ·refine aw_reg [(7, .call [(true, I ((2 * l.X) + (((2 * k) + 1) * l.Cell))), (true, I (2 * b.X1)), (true, I (2 * b.X2))] true (Bv false))] [0, 3, 6, 7, 8, 41] [3] [.ptr false [Sv l.Text, I l.X, I l.Y, I l.Cell], .ref 3 0, I fr_, I to_, I k, Bv true] [some (bxBox b)] [inR .i64 (2 * b.X1), inR .i64 (2 * b.X2), Con Tryz.prog 46 [I ((2 * l.X) + (((2 * k) + 1) * l.Cell)), I (2 * b.X1), I (2 * b.X2)] true (Bv false) ∧ ((I ((2 * l.X) + (((2 * k) + 1) * l.Cell)) : AV) = I ((2 * l.X) + (((2 * k) + 1) * l.Cell))) ∧ ((I (2 * b.X1) : AV) = I (2 * b.X1)) ∧ ((I (2 * b.X2) : AV) = I (2 * b.X2)) ∧ True] (by kernel_rfl) hB ⟨(inR_i64 (by omega) (by omega)), (inR_i64 (by omega) (by omega)), ⟨(con_bool h2 (l00In_ok ((2 * l.X) + (((2 * k) + 1) * l.Cell)) (2 * b.X1) (2 * b.X2))), rfl, rfl, rfl, trivial⟩, trivial⟩ ?_
    refine ae_then ?_
    refine aw_true rfl ?_
    refine aw_exit ?_
    refine ae_exit_then ?_
    refine ae_exit_same ?_
    refine ae_then ?_
    refine aw_reg [] [0, 3, 6, 7, 8] [3] [.ptr false [Sv l.Text, I l.X, I l.Y, I l.Cell], .ref 3 0, I fr_, I to_, I (k + 1)] [some (bxBox b)] [inR .i64 (k + 1)] (by kernel_rfl) hB ⟨(inR_i64 (by omega) (by omega)), trivial⟩ ?_
    exact ae_again _ (by omega) ⟨fr_, to_, (k + 1), rfl, (by omega), (by first | (rw [spanS_yes hi0.1 (by assumption), ← hs1, ← hs2]; first | (simp only [if_pos (by assumption : to_ = 0)]; done) | (simp only [if_neg (by assumption : ¬ to_ = 0)]; done)) | (rw [spanS_no hi0.1 (by assumption), ← hs1])), (by first | (rw [spanS_yes hi0.1 (by assumption)]; done) | (rw [spanS_no hi0.1 (by assumption), ← hs2])), (by omega), rfl⟩
  ·have hie : k.toNat = l.Text.size := by omega
   rw [hie] at hs1 hs2
   refine aw_reg [(6, .dec false)] [0, 3, 6, 7, 8, 16] [3] [.ptr false [Sv l.Text, I l.X, I l.Y, I l.Cell], .ref 3 0, I fr_, I to_, I k, Bv false] [some (bxBox b)] [¬ (k < (l.Text.size : Int))] (by kernel_rfl) hB ⟨h1, trivial⟩ ?_
   refine ae_then ?_
   refine aw_false rfl ?_
   refine aw_exit ?_
   refine ae_exit_then ?_
   refine ae_exit_then ?_
   refine ae_exit_same ?_
   refine ae_then ?_
   refine aw_seq ?_
   refine aw_reg [] [4, 5] [] [I fr_, I to_] [] [] (by kernel_rfl) hB trivial ?_
   refine ae_then ?_
   refine aw_ret ?_
   refine ae_ret hB (.tup [I fr_, I to_]) (by kernel_rfl) (.inl (by rw [hs1, hs2])) rfl (fun _ => (by simp [tagged, taggedL]))


-- spec.l23Edit
theorem l23Edit_ok (l : CellRow) (s : Stroke) (hr0 : okRow l = true) (ok : okStroke' s = true) : Con Tryz.prog 57 [.ptr false [Sv l.Text, I l.X, I l.Y, I l.Cell], .ptr false [slPoint false s.Points]] true (.tup [agEdit ((editR l s).1), I ((editR l s).2)]) := by
  have hr := okRow_iff.1 hr0
  have hln := okS_len ok
  have hbx := boxS_all ok
  unfold okBox at hbx
  have hpd := okP_iff.1 (okS_at ok (j := tipS s.Points s.Points.length) (tip_lt (by omega)))
  have htl := tip_lt (xs := s.Points) (by omega)
  have htn : ((tipS s.Points s.Points.length : Nat) : Int).toNat = tipS s.Points s.Points.length := Int.toNat_natCast _
  have hpd2 := hpd
  rw [← htn] at hpd2
  have hsp := spanS_bd l (boxS s.Points s.Points.length) l.Text.size
  refine fn_ok (fn := Tryz.f57) (nt := 76) Tryz.func57 rfl rfl rfl rfl (by simp [taggedL, tagged, tagPoint]) fun B hB => ?_
  refine aw_lens (x := .ptr false [slPoint false s.Points]) 1 rfl (fun len_s => ?_)
  simp [LenOK, LenL, cPoint, fPoint, slPoint] at len_s
  refine aw_seq ?_
  refine aw_reg [(0, .new 4)] [0, 1, 4] [4] [.ptr false [Sv l.Text, I l.X, I l.Y, I l.Cell], .ptr false [slPoint false s.Points], .ref 4 0] [some (.box [I 0, I 0, I 0])] [] (by kernel_rfl) hB trivial ?_
  refine ae_then ?_
  refine aw_seq ?_
  refine aw_reg [] [0, 1, 4] [4] [.ptr false [Sv l.Text, I l.X, I l.Y, I l.Cell], .ptr false [slPoint false s.Points], .ref 4 0] [some (.box [I 0, I 0, I 0])] [] (by kernel_rfl) hB trivial ?_
  refine ae_then ?_
  refine aw_seq ?_
  refine aw_seq ?_
  refine aw_reg [(1, .call [(true, .ptr false [slPoint false s.Points])] true (I (gestI s)))] [0, 1, 4, 12] [4] [.ptr false [Sv l.Text, I l.X, I l.Y, I l.Cell], .ptr false [slPoint false s.Points], .ref 4 0, I (gestI s)] [some (.box [I 0, I 0, I 0])] [Con Tryz.prog 36 [.ptr false [slPoint false s.Points]] true (I (gestI s)) ∧ ((.ptr false [slPoint false s.Points] : AV) = .ptr false [slPoint false s.Points]) ∧ True] (by kernel_rfl) hB ⟨⟨(l23Gesture_ok s ok), rfl, trivial⟩, trivial⟩ ?_
  refine ae_then ?_
  refine aw_block ?_
  refine aw_seq ?_
  by_cases h1 : (gestI s) = 2
  ·refine aw_reg [(0, .dec true)] [0, 1, 4, 12, 14] [4] [.ptr false [Sv l.Text, I l.X, I l.Y, I l.Cell], .ptr false [slPoint false s.Points], .ref 4 0, I (gestI s), Bv true] [some (.box [I 0, I 0, I 0])] [(gestI s) = 2] (by kernel_rfl) hB ⟨h1, trivial⟩ ?_
   refine ae_then ?_
   refine aw_true rfl ?_
   refine aw_reg [] [0, 1, 4, 6] [4] [.ptr false [Sv l.Text, I l.X, I l.Y, I l.Cell], .ptr false [slPoint false s.Points], .ref 4 0, I 1] [some (.box [I 0, I 0, I 0])] [] (by kernel_rfl) hB trivial ?_
   refine ae_block 0 ?_
   refine ae_then ?_
   refine aw_seq ?_
   refine aw_reg [(1, .call [(true, .ptr false [slPoint false s.Points])] true (agBox (boxS s.Points s.Points.length))), (2, .new 7)] [0, 1, 4, 6, 7] [4, 7] [.ptr false [Sv l.Text, I l.X, I l.Y, I l.Cell], .ptr false [slPoint false s.Points], .ref 4 0, I 1, .ref 7 0] [some (.box [I 0, I 0, I 0]), some (bxBox (boxS s.Points s.Points.length))] [Con Tryz.prog 83 [.ptr false [slPoint false s.Points]] true (agBox (boxS s.Points s.Points.length)) ∧ ((.ptr false [slPoint false s.Points] : AV) = .ptr false [slPoint false s.Points]) ∧ True] (by kernel_rfl) hB ⟨⟨(l02BoxOf_ok s ok), rfl, trivial⟩, trivial⟩ ?_
   refine ae_then ?_
   refine aw_seq ?_
   refine aw_seq ?_
   by_cases h2 : ((boxS s.Points s.Points.length).Y2) < l.Y
   ·refine aw_reg [(6, .dec true)] [0, 1, 4, 6, 7, 43] [4, 7] [.ptr false [Sv l.Text, I l.X, I l.Y, I l.Cell], .ptr false [slPoint false s.Points], .ref 4 0, I 1, .ref 7 0, Bv true] [some (.box [I 0, I 0, I 0]), some (bxBox (boxS s.Points s.Points.length))] [((boxS s.Points s.Points.length).Y2) < l.Y] (by kernel_rfl) hB ⟨h2, trivial⟩ ?_
    refine ae_then ?_
    refine aw_true rfl ?_
    refine aw_seq ?_
    refine aw_reg [] [4, 5] [4] [.ref 4 0, I 3] [some (.box [I 0, I 0, I 0])] [] (by kernel_rfl) hB trivial ?_
    refine ae_then ?_
    refine aw_ret ?_
    refine ae_ret_then ?_
    refine ae_ret hB (.tup [.agg [I 0, I 0, I 0], I 3]) (by kernel_rfl) (.inl (by simp [editR, kindI, *])) rfl (fun _ => (by simp [tagged, taggedL]))
   ·by_cases h3 : (l.Y + (2 * l.Cell)) < ((boxS s.Points s.Points.length).Y1)
    ·refine aw_reg [(6, .dec false), (20, .dec true)] [0, 1, 4, 6, 7, 43] [4, 7] [.ptr false [Sv l.Text, I l.X, I l.Y, I l.Cell], .ptr false [slPoint false s.Points], .ref 4 0, I 1, .ref 7 0, Bv true] [some (.box [I 0, I 0, I 0]), some (bxBox (boxS s.Points s.Points.length))] [¬ (((boxS s.Points s.Points.length).Y2) < l.Y), inR .i64 (2 * l.Cell), inR .i64 (l.Y + (2 * l.Cell)), (l.Y + (2 * l.Cell)) < ((boxS s.Points s.Points.length).Y1)] (by kernel_rfl) hB ⟨h2, (inR_i64 (by omega) (by omega)), (inR_i64 (by omega) (by omega)), h3, trivial⟩ ?_
     refine ae_then ?_
     refine aw_true rfl ?_
     refine aw_seq ?_
     refine aw_reg [] [4, 5] [4] [.ref 4 0, I 3] [some (.box [I 0, I 0, I 0])] [] (by kernel_rfl) hB trivial ?_
     refine ae_then ?_
     refine aw_ret ?_
     refine ae_ret_then ?_
     refine ae_ret hB (.tup [.agg [I 0, I 0, I 0], I 3]) (by kernel_rfl) (.inl (by simp [editR, kindI, *])) rfl (fun _ => (by simp [tagged, taggedL]))
    ·refine aw_reg [(6, .dec false), (20, .dec false)] [0, 1, 4, 6, 7, 43] [4, 7] [.ptr false [Sv l.Text, I l.X, I l.Y, I l.Cell], .ptr false [slPoint false s.Points], .ref 4 0, I 1, .ref 7 0, Bv false] [some (.box [I 0, I 0, I 0]), some (bxBox (boxS s.Points s.Points.length))] [¬ (((boxS s.Points s.Points.length).Y2) < l.Y), inR .i64 (2 * l.Cell), inR .i64 (l.Y + (2 * l.Cell)), ¬ ((l.Y + (2 * l.Cell)) < ((boxS s.Points s.Points.length).Y1))] (by kernel_rfl) hB ⟨h2, (inR_i64 (by omega) (by omega)), (inR_i64 (by omega) (by omega)), h3, trivial⟩ ?_
     refine ae_then ?_
     refine aw_false rfl ?_
     refine aw_skip ?_
     refine ae_then ?_
     refine aw_seq ?_
     refine aw_seq ?_
     refine aw_reg [(1, .dec false)] [0, 1, 4, 6, 7, 46] [4, 7] [.ptr false [Sv l.Text, I l.X, I l.Y, I l.Cell], .ptr false [slPoint false s.Points], .ref 4 0, I 1, .ref 7 0, Bv false] [some (.box [I 0, I 0, I 0]), some (bxBox (boxS s.Points s.Points.length))] [¬ ((1 : Int) = 3)] (by kernel_rfl) hB ⟨(by decide), trivial⟩ ?_
     refine ae_then ?_
     refine aw_false rfl ?_
     refine aw_skip ?_
     refine ae_then ?_
     refine aw_seq ?_
     refine aw_reg [(2, .call [(true, .ptr false [Sv l.Text, I l.X, I l.Y, I l.Cell]), (true, agBox (boxS s.Points s.Points.length))] true (.tup [I ((spanS l (boxS s.Points s.Points.length) l.Text.size).1), I ((spanS l (boxS s.Points s.Points.length) l.Text.size).2)]))] [4, 6, 9, 10] [4] [.ref 4 0, I 1, I ((spanS l (boxS s.Points s.Points.length) l.Text.size).1), I ((spanS l (boxS s.Points s.Points.length) l.Text.size).2)] [some (.box [I 0, I 0, I 0])] [Con Tryz.prog 86 [.ptr false [Sv l.Text, I l.X, I l.Y, I l.Cell], agBox (boxS s.Points s.Points.length)] true (.tup [I ((spanS l (boxS s.Points s.Points.length) l.Text.size).1), I ((spanS l (boxS s.Points s.Points.length) l.Text.size).2)]) ∧ ((.ptr false [Sv l.Text, I l.X, I l.Y, I l.Cell] : AV) = .ptr false [Sv l.Text, I l.X, I l.Y, I l.Cell]) ∧ ((agBox (boxS s.Points s.Points.length) : AV) = agBox (boxS s.Points s.Points.length)) ∧ True] (by kernel_rfl) hB ⟨⟨(l23Span_ok l (boxS s.Points s.Points.length) hr0 (by omega)), rfl, rfl, trivial⟩, trivial⟩ ?_
     refine ae_then ?_
     refine aw_seq ?_
     refine aw_seq ?_
     by_cases h4 : ((spanS l (boxS s.Points s.Points.length) l.Text.size).1) = ((spanS l (boxS s.Points s.Points.length) l.Text.size).2)
     ·have hz : (spanS l (boxS s.Points s.Points.length) l.Text.size).2 = 0 := by omega
      refine aw_reg [(2, .dec true)] [4, 6, 9, 10, 70] [4] [.ref 4 0, I 1, I ((spanS l (boxS s.Points s.Points.length) l.Text.size).1), I ((spanS l (boxS s.Points s.Points.length) l.Text.size).2), Bv true] [some (.box [I 0, I 0, I 0])] [((spanS l (boxS s.Points s.Points.length) l.Text.size).1) = ((spanS l (boxS s.Points s.Points.length) l.Text.size).2)] (by kernel_rfl) hB ⟨h4, trivial⟩ ?_
      refine ae_then ?_
      refine aw_true rfl ?_
      refine aw_seq ?_
      refine aw_reg [] [4, 5] [4] [.ref 4 0, I 3] [some (.box [I 0, I 0, I 0])] [] (by kernel_rfl) hB trivial ?_
      refine ae_then ?_
      refine aw_ret ?_
      refine ae_ret_then ?_
      refine ae_ret hB (.tup [.agg [I 0, I 0, I 0], I 3]) (by kernel_rfl) (.inl (by simp [editR, kindI, *])) rfl (fun _ => (by simp [tagged, taggedL]))
     ·have hz : ¬ (spanS l (boxS s.Points s.Points.length) l.Text.size).2 = 0 := by omega
      refine aw_reg [(2, .dec false)] [4, 6, 9, 10, 70] [4] [.ref 4 0, I 1, I ((spanS l (boxS s.Points s.Points.length) l.Text.size).1), I ((spanS l (boxS s.Points s.Points.length) l.Text.size).2), Bv false] [some (.box [I 0, I 0, I 0])] [¬ (((spanS l (boxS s.Points s.Points.length) l.Text.size).1) = ((spanS l (boxS s.Points s.Points.length) l.Text.size).2))] (by kernel_rfl) hB ⟨h4, trivial⟩ ?_
      refine ae_then ?_
      refine aw_false rfl ?_
      refine aw_skip ?_
      refine ae_then ?_
      refine aw_seq ?_
      refine aw_reg [] [4, 5] [4] [.ref 4 0, I 0] [some (.box [I 1, I ((spanS l (boxS s.Points s.Points.length) l.Text.size).1), I ((spanS l (boxS s.Points s.Points.length) l.Text.size).2)])] [] (by kernel_rfl) hB trivial ?_
      refine ae_then ?_
      refine aw_ret ?_
      refine ae_ret hB (.tup [.agg [I 1, I ((spanS l (boxS s.Points s.Points.length) l.Text.size).1), I ((spanS l (boxS s.Points s.Points.length) l.Text.size).2)], I 0]) (by kernel_rfl) (.inl (by simp [editR, kindI, *])) rfl (fun _ => (by simp [tagged, taggedL]))
  ·refine aw_reg [(0, .dec false)] [0, 1, 4, 12, 14] [4] [.ptr false [Sv l.Text, I l.X, I l.Y, I l.Cell], .ptr false [slPoint false s.Points], .ref 4 0, I (gestI s), Bv false] [some (.box [I 0, I 0, I 0])] [¬ ((gestI s) = 2)] (by kernel_rfl) hB ⟨h1, trivial⟩ ?_
   refine ae_then ?_
   refine aw_false rfl ?_
   refine aw_seq ?_
   by_cases h5 : (gestI s) = 3
   ·refine aw_reg [(0, .dec true)] [0, 1, 4, 12, 16] [4] [.ptr false [Sv l.Text, I l.X, I l.Y, I l.Cell], .ptr false [slPoint false s.Points], .ref 4 0, I (gestI s), Bv true] [some (.box [I 0, I 0, I 0])] [(gestI s) = 3] (by kernel_rfl) hB ⟨h5, trivial⟩ ?_
    refine ae_then ?_
    refine aw_true rfl ?_
    refine aw_reg [] [0, 1, 4, 6] [4] [.ptr false [Sv l.Text, I l.X, I l.Y, I l.Cell], .ptr false [slPoint false s.Points], .ref 4 0, I 2] [some (.box [I 0, I 0, I 0])] [] (by kernel_rfl) hB trivial ?_
    refine ae_block 0 ?_
    refine ae_then ?_
    refine aw_seq ?_
    refine aw_reg [(1, .call [(true, .ptr false [slPoint false s.Points])] true (agBox (boxS s.Points s.Points.length))), (2, .new 7)] [0, 1, 4, 6, 7] [4, 7] [.ptr false [Sv l.Text, I l.X, I l.Y, I l.Cell], .ptr false [slPoint false s.Points], .ref 4 0, I 2, .ref 7 0] [some (.box [I 0, I 0, I 0]), some (bxBox (boxS s.Points s.Points.length))] [Con Tryz.prog 83 [.ptr false [slPoint false s.Points]] true (agBox (boxS s.Points s.Points.length)) ∧ ((.ptr false [slPoint false s.Points] : AV) = .ptr false [slPoint false s.Points]) ∧ True] (by kernel_rfl) hB ⟨⟨(l02BoxOf_ok s ok), rfl, trivial⟩, trivial⟩ ?_
    refine ae_then ?_
    refine aw_seq ?_
    refine aw_seq ?_
    by_cases h6 : ((boxS s.Points s.Points.length).Y2) < l.Y
    ·refine aw_reg [(6, .dec true)] [0, 1, 4, 6, 7, 43] [4, 7] [.ptr false [Sv l.Text, I l.X, I l.Y, I l.Cell], .ptr false [slPoint false s.Points], .ref 4 0, I 2, .ref 7 0, Bv true] [some (.box [I 0, I 0, I 0]), some (bxBox (boxS s.Points s.Points.length))] [((boxS s.Points s.Points.length).Y2) < l.Y] (by kernel_rfl) hB ⟨h6, trivial⟩ ?_
     refine ae_then ?_
     refine aw_true rfl ?_
     refine aw_seq ?_
     refine aw_reg [] [4, 5] [4] [.ref 4 0, I 3] [some (.box [I 0, I 0, I 0])] [] (by kernel_rfl) hB trivial ?_
     refine ae_then ?_
     refine aw_ret ?_
     refine ae_ret_then ?_
     refine ae_ret hB (.tup [.agg [I 0, I 0, I 0], I 3]) (by kernel_rfl) (.inl (by simp [editR, kindI, *])) rfl (fun _ => (by simp [tagged, taggedL]))
    ·by_cases h7 : (l.Y + (2 * l.Cell)) < ((boxS s.Points s.Points.length).Y1)
     ·refine aw_reg [(6, .dec false), (20, .dec true)] [0, 1, 4, 6, 7, 43] [4, 7] [.ptr false [Sv l.Text, I l.X, I l.Y, I l.Cell], .ptr false [slPoint false s.Points], .ref 4 0, I 2, .ref 7 0, Bv true] [some (.box [I 0, I 0, I 0]), some (bxBox (boxS s.Points s.Points.length))] [¬ (((boxS s.Points s.Points.length).Y2) < l.Y), inR .i64 (2 * l.Cell), inR .i64 (l.Y + (2 * l.Cell)), (l.Y + (2 * l.Cell)) < ((boxS s.Points s.Points.length).Y1)] (by kernel_rfl) hB ⟨h6, (inR_i64 (by omega) (by omega)), (inR_i64 (by omega) (by omega)), h7, trivial⟩ ?_
      refine ae_then ?_
      refine aw_true rfl ?_
      refine aw_seq ?_
      refine aw_reg [] [4, 5] [4] [.ref 4 0, I 3] [some (.box [I 0, I 0, I 0])] [] (by kernel_rfl) hB trivial ?_
      refine ae_then ?_
      refine aw_ret ?_
      refine ae_ret_then ?_
      refine ae_ret hB (.tup [.agg [I 0, I 0, I 0], I 3]) (by kernel_rfl) (.inl (by simp [editR, kindI, *])) rfl (fun _ => (by simp [tagged, taggedL]))
     ·refine aw_reg [(6, .dec false), (20, .dec false)] [0, 1, 4, 6, 7, 43] [4, 7] [.ptr false [Sv l.Text, I l.X, I l.Y, I l.Cell], .ptr false [slPoint false s.Points], .ref 4 0, I 2, .ref 7 0, Bv false] [some (.box [I 0, I 0, I 0]), some (bxBox (boxS s.Points s.Points.length))] [¬ (((boxS s.Points s.Points.length).Y2) < l.Y), inR .i64 (2 * l.Cell), inR .i64 (l.Y + (2 * l.Cell)), ¬ ((l.Y + (2 * l.Cell)) < ((boxS s.Points s.Points.length).Y1))] (by kernel_rfl) hB ⟨h6, (inR_i64 (by omega) (by omega)), (inR_i64 (by omega) (by omega)), h7, trivial⟩ ?_
      refine ae_then ?_
      refine aw_false rfl ?_
      refine aw_skip ?_
      refine ae_then ?_
      refine aw_seq ?_
      refine aw_seq ?_
      refine aw_reg [(1, .dec false)] [0, 1, 4, 6, 7, 46] [4, 7] [.ptr false [Sv l.Text, I l.X, I l.Y, I l.Cell], .ptr false [slPoint false s.Points], .ref 4 0, I 2, .ref 7 0, Bv false] [some (.box [I 0, I 0, I 0]), some (bxBox (boxS s.Points s.Points.length))] [¬ ((2 : Int) = 3)] (by kernel_rfl) hB ⟨(by decide), trivial⟩ ?_
      refine ae_then ?_
      refine aw_false rfl ?_
      refine aw_skip ?_
      refine ae_then ?_
      refine aw_seq ?_
      refine aw_reg [(2, .call [(true, .ptr false [Sv l.Text, I l.X, I l.Y, I l.Cell]), (true, agBox (boxS s.Points s.Points.length))] true (.tup [I ((spanS l (boxS s.Points s.Points.length) l.Text.size).1), I ((spanS l (boxS s.Points s.Points.length) l.Text.size).2)]))] [4, 6, 9, 10] [4] [.ref 4 0, I 2, I ((spanS l (boxS s.Points s.Points.length) l.Text.size).1), I ((spanS l (boxS s.Points s.Points.length) l.Text.size).2)] [some (.box [I 0, I 0, I 0])] [Con Tryz.prog 86 [.ptr false [Sv l.Text, I l.X, I l.Y, I l.Cell], agBox (boxS s.Points s.Points.length)] true (.tup [I ((spanS l (boxS s.Points s.Points.length) l.Text.size).1), I ((spanS l (boxS s.Points s.Points.length) l.Text.size).2)]) ∧ ((.ptr false [Sv l.Text, I l.X, I l.Y, I l.Cell] : AV) = .ptr false [Sv l.Text, I l.X, I l.Y, I l.Cell]) ∧ ((agBox (boxS s.Points s.Points.length) : AV) = agBox (boxS s.Points s.Points.length)) ∧ True] (by kernel_rfl) hB ⟨⟨(l23Span_ok l (boxS s.Points s.Points.length) hr0 (by omega)), rfl, rfl, trivial⟩, trivial⟩ ?_
      refine ae_then ?_
      refine aw_seq ?_
      refine aw_seq ?_
      by_cases h8 : ((spanS l (boxS s.Points s.Points.length) l.Text.size).1) = ((spanS l (boxS s.Points s.Points.length) l.Text.size).2)
      ·have hz : (spanS l (boxS s.Points s.Points.length) l.Text.size).2 = 0 := by omega
       refine aw_reg [(2, .dec true)] [4, 6, 9, 10, 70] [4] [.ref 4 0, I 2, I ((spanS l (boxS s.Points s.Points.length) l.Text.size).1), I ((spanS l (boxS s.Points s.Points.length) l.Text.size).2), Bv true] [some (.box [I 0, I 0, I 0])] [((spanS l (boxS s.Points s.Points.length) l.Text.size).1) = ((spanS l (boxS s.Points s.Points.length) l.Text.size).2)] (by kernel_rfl) hB ⟨h8, trivial⟩ ?_
       refine ae_then ?_
       refine aw_true rfl ?_
       refine aw_seq ?_
       refine aw_reg [] [4, 5] [4] [.ref 4 0, I 3] [some (.box [I 0, I 0, I 0])] [] (by kernel_rfl) hB trivial ?_
       refine ae_then ?_
       refine aw_ret ?_
       refine ae_ret_then ?_
       refine ae_ret hB (.tup [.agg [I 0, I 0, I 0], I 3]) (by kernel_rfl) (.inl (by simp [editR, kindI, *])) rfl (fun _ => (by simp [tagged, taggedL]))
      ·have hz : ¬ (spanS l (boxS s.Points s.Points.length) l.Text.size).2 = 0 := by omega
       refine aw_reg [(2, .dec false)] [4, 6, 9, 10, 70] [4] [.ref 4 0, I 2, I ((spanS l (boxS s.Points s.Points.length) l.Text.size).1), I ((spanS l (boxS s.Points s.Points.length) l.Text.size).2), Bv false] [some (.box [I 0, I 0, I 0])] [¬ (((spanS l (boxS s.Points s.Points.length) l.Text.size).1) = ((spanS l (boxS s.Points s.Points.length) l.Text.size).2))] (by kernel_rfl) hB ⟨h8, trivial⟩ ?_
       refine ae_then ?_
       refine aw_false rfl ?_
       refine aw_skip ?_
       refine ae_then ?_
       refine aw_seq ?_
       refine aw_reg [] [4, 5] [4] [.ref 4 0, I 0] [some (.box [I 2, I ((spanS l (boxS s.Points s.Points.length) l.Text.size).1), I ((spanS l (boxS s.Points s.Points.length) l.Text.size).2)])] [] (by kernel_rfl) hB trivial ?_
       refine ae_then ?_
       refine aw_ret ?_
       refine ae_ret hB (.tup [.agg [I 2, I ((spanS l (boxS s.Points s.Points.length) l.Text.size).1), I ((spanS l (boxS s.Points s.Points.length) l.Text.size).2)], I 0]) (by kernel_rfl) (.inl (by simp [editR, kindI, *])) rfl (fun _ => (by simp [tagged, taggedL]))
   ·refine aw_reg [(0, .dec false)] [0, 1, 4, 12, 16] [4] [.ptr false [Sv l.Text, I l.X, I l.Y, I l.Cell], .ptr false [slPoint false s.Points], .ref 4 0, I (gestI s), Bv false] [some (.box [I 0, I 0, I 0])] [¬ ((gestI s) = 3)] (by kernel_rfl) hB ⟨h5, trivial⟩ ?_
    refine ae_then ?_
    refine aw_false rfl ?_
    refine aw_seq ?_
    by_cases h9 : (gestI s) = 4
    ·refine aw_reg [(0, .dec true)] [0, 1, 4, 18] [4] [.ptr false [Sv l.Text, I l.X, I l.Y, I l.Cell], .ptr false [slPoint false s.Points], .ref 4 0, Bv true] [some (.box [I 0, I 0, I 0])] [(gestI s) = 4] (by kernel_rfl) hB ⟨h9, trivial⟩ ?_
     refine ae_then ?_
     refine aw_true rfl ?_
     refine aw_reg [] [0, 1, 4, 6] [4] [.ptr false [Sv l.Text, I l.X, I l.Y, I l.Cell], .ptr false [slPoint false s.Points], .ref 4 0, I 3] [some (.box [I 0, I 0, I 0])] [] (by kernel_rfl) hB trivial ?_
     refine ae_block 0 ?_
     refine ae_then ?_
     refine aw_seq ?_
     refine aw_reg [(1, .call [(true, .ptr false [slPoint false s.Points])] true (agBox (boxS s.Points s.Points.length))), (2, .new 7)] [0, 1, 4, 6, 7] [4, 7] [.ptr false [Sv l.Text, I l.X, I l.Y, I l.Cell], .ptr false [slPoint false s.Points], .ref 4 0, I 3, .ref 7 0] [some (.box [I 0, I 0, I 0]), some (bxBox (boxS s.Points s.Points.length))] [Con Tryz.prog 83 [.ptr false [slPoint false s.Points]] true (agBox (boxS s.Points s.Points.length)) ∧ ((.ptr false [slPoint false s.Points] : AV) = .ptr false [slPoint false s.Points]) ∧ True] (by kernel_rfl) hB ⟨⟨(l02BoxOf_ok s ok), rfl, trivial⟩, trivial⟩ ?_
     refine ae_then ?_
     refine aw_seq ?_
     refine aw_seq ?_
     by_cases h10 : ((boxS s.Points s.Points.length).Y2) < l.Y
     ·refine aw_reg [(6, .dec true)] [0, 1, 4, 6, 7, 43] [4, 7] [.ptr false [Sv l.Text, I l.X, I l.Y, I l.Cell], .ptr false [slPoint false s.Points], .ref 4 0, I 3, .ref 7 0, Bv true] [some (.box [I 0, I 0, I 0]), some (bxBox (boxS s.Points s.Points.length))] [((boxS s.Points s.Points.length).Y2) < l.Y] (by kernel_rfl) hB ⟨h10, trivial⟩ ?_
      refine ae_then ?_
      refine aw_true rfl ?_
      refine aw_seq ?_
      refine aw_reg [] [4, 5] [4] [.ref 4 0, I 3] [some (.box [I 0, I 0, I 0])] [] (by kernel_rfl) hB trivial ?_
      refine ae_then ?_
      refine aw_ret ?_
      refine ae_ret_then ?_
      refine ae_ret hB (.tup [.agg [I 0, I 0, I 0], I 3]) (by kernel_rfl) (.inl (by simp [editR, kindI, *])) rfl (fun _ => (by simp [tagged, taggedL]))
     ·by_cases h11 : (l.Y + (2 * l.Cell)) < ((boxS s.Points s.Points.length).Y1)
      ·refine aw_reg [(6, .dec false), (20, .dec true)] [0, 1, 4, 6, 7, 43] [4, 7] [.ptr false [Sv l.Text, I l.X, I l.Y, I l.Cell], .ptr false [slPoint false s.Points], .ref 4 0, I 3, .ref 7 0, Bv true] [some (.box [I 0, I 0, I 0]), some (bxBox (boxS s.Points s.Points.length))] [¬ (((boxS s.Points s.Points.length).Y2) < l.Y), inR .i64 (2 * l.Cell), inR .i64 (l.Y + (2 * l.Cell)), (l.Y + (2 * l.Cell)) < ((boxS s.Points s.Points.length).Y1)] (by kernel_rfl) hB ⟨h10, (inR_i64 (by omega) (by omega)), (inR_i64 (by omega) (by omega)), h11, trivial⟩ ?_
       refine ae_then ?_
       refine aw_true rfl ?_
       refine aw_seq ?_
       refine aw_reg [] [4, 5] [4] [.ref 4 0, I 3] [some (.box [I 0, I 0, I 0])] [] (by kernel_rfl) hB trivial ?_
       refine ae_then ?_
       refine aw_ret ?_
       refine ae_ret_then ?_
       refine ae_ret hB (.tup [.agg [I 0, I 0, I 0], I 3]) (by kernel_rfl) (.inl (by simp [editR, kindI, *])) rfl (fun _ => (by simp [tagged, taggedL]))
      ·refine aw_reg [(6, .dec false), (20, .dec false)] [0, 1, 4, 6, 7, 43] [4, 7] [.ptr false [Sv l.Text, I l.X, I l.Y, I l.Cell], .ptr false [slPoint false s.Points], .ref 4 0, I 3, .ref 7 0, Bv false] [some (.box [I 0, I 0, I 0]), some (bxBox (boxS s.Points s.Points.length))] [¬ (((boxS s.Points s.Points.length).Y2) < l.Y), inR .i64 (2 * l.Cell), inR .i64 (l.Y + (2 * l.Cell)), ¬ ((l.Y + (2 * l.Cell)) < ((boxS s.Points s.Points.length).Y1))] (by kernel_rfl) hB ⟨h10, (inR_i64 (by omega) (by omega)), (inR_i64 (by omega) (by omega)), h11, trivial⟩ ?_
       refine ae_then ?_
       refine aw_false rfl ?_
       refine aw_skip ?_
       refine ae_then ?_
       refine aw_seq ?_
       refine aw_seq ?_
       refine aw_reg [(1, .dec true)] [0, 1, 4, 6, 7, 46] [4, 7] [.ptr false [Sv l.Text, I l.X, I l.Y, I l.Cell], .ptr false [slPoint false s.Points], .ref 4 0, I 3, .ref 7 0, Bv true] [some (.box [I 0, I 0, I 0]), some (bxBox (boxS s.Points s.Points.length))] [(3 : Int) = 3] (by kernel_rfl) hB ⟨(by decide), trivial⟩ ?_
       refine ae_then ?_
       refine aw_true rfl ?_
       refine aw_seq ?_
       refine aw_reg [(6, .call [(true, .ptr false [slPoint false s.Points])] true (I (tipS s.Points s.Points.length : Int))), (10, .call [(true, .ptr false [Sv l.Text, I l.X, I l.Y, I l.Cell]), (true, I ((at_ s.Points ((tipS s.Points s.Points.length : Int).toNat)).X))] true (I (placeS l ((at_ s.Points ((tipS s.Points s.Points.length : Int).toNat)).X) l.Text.size)))] [4, 6, 8] [4] [.ref 4 0, I 3, I (placeS l ((at_ s.Points ((tipS s.Points s.Points.length : Int).toNat)).X) l.Text.size)] [some (.box [I 0, I 0, I 0])] [Con Tryz.prog 85 [.ptr false [slPoint false s.Points]] true (I (tipS s.Points s.Points.length : Int)) ∧ ((.ptr false [slPoint false s.Points] : AV) = .ptr false [slPoint false s.Points]) ∧ True, (0 : Int) ≤ (tipS s.Points s.Points.length : Int) ∧ (tipS s.Points s.Points.length : Int) < (s.Points.length : Int), Con Tryz.prog 84 [.ptr false [Sv l.Text, I l.X, I l.Y, I l.Cell], I ((at_ s.Points ((tipS s.Points s.Points.length : Int).toNat)).X)] true (I (placeS l ((at_ s.Points ((tipS s.Points s.Points.length : Int).toNat)).X) l.Text.size)) ∧ ((.ptr false [Sv l.Text, I l.X, I l.Y, I l.Cell] : AV) = .ptr false [Sv l.Text, I l.X, I l.Y, I l.Cell]) ∧ ((I ((at_ s.Points ((tipS s.Points s.Points.length : Int).toNat)).X) : AV) = I ((at_ s.Points ((tipS s.Points s.Points.length : Int).toNat)).X)) ∧ True] (by kernel_rfl) hB ⟨⟨(l23Tip_ok s ok), rfl, trivial⟩, ⟨(by omega), (by omega)⟩, ⟨(l23Place_ok l ((at_ s.Points ((tipS s.Points s.Points.length : Int).toNat)).X) hr0 (by omega)), rfl, rfl, trivial⟩, trivial⟩ ?_
       refine ae_then ?_
       refine aw_seq ?_
       refine aw_reg [] [4, 5] [4] [.ref 4 0, I 0] [some (.box [I 3, I (placeS l ((at_ s.Points ((tipS s.Points s.Points.length : Int).toNat)).X) l.Text.size), I (placeS l ((at_ s.Points ((tipS s.Points s.Points.length : Int).toNat)).X) l.Text.size)])] [] (by kernel_rfl) hB trivial ?_
       refine ae_then ?_
       refine aw_ret ?_
       refine ae_ret_then ?_
       refine ae_ret hB (.tup [.agg [I 3, I (placeS l ((at_ s.Points ((tipS s.Points s.Points.length : Int).toNat)).X) l.Text.size), I (placeS l ((at_ s.Points ((tipS s.Points s.Points.length : Int).toNat)).X) l.Text.size)], I 0]) (by kernel_rfl) (.inl (by simp [editR, kindI, *])) rfl (fun _ => (by simp [tagged, taggedL]))
    ·refine aw_reg [(0, .dec false)] [0, 1, 4, 18] [4] [.ptr false [Sv l.Text, I l.X, I l.Y, I l.Cell], .ptr false [slPoint false s.Points], .ref 4 0, Bv false] [some (.box [I 0, I 0, I 0])] [¬ ((gestI s) = 4)] (by kernel_rfl) hB ⟨h9, trivial⟩ ?_
     refine ae_then ?_
     refine aw_false rfl ?_
     refine aw_seq ?_
     refine aw_reg [] [4, 5] [4] [.ref 4 0, I 6] [some (.box [I 0, I 0, I 0])] [] (by kernel_rfl) hB trivial ?_
     refine ae_then ?_
     refine aw_ret ?_
     refine ae_ret_block (ae_ret_then ?_)
     refine ae_ret hB (.tup [.agg [I 0, I 0, I 0], I 6]) (by kernel_rfl) (.inl (by simp [editR, kindI, *])) rfl (fun _ => (by simp [tagged, taggedL]))


-- spec.EditOf
theorem specEditOf_ok (l : CellRow) (s : Stroke) (okl : l.Text.size ≤ 9223372036854775807) : Con Tryz.prog 29 [agCellRow l, .agg [slPoint false s.Points]] true (.tup [agEdit ((editOfR l s).1), I ((editOfR l s).2)]) := by
  refine fn_ok (fn := Tryz.f29) (nt := 16) Tryz.func29 rfl rfl rfl rfl (by simp [taggedL, tagged, tagPoint]) fun B hB => ?_
  refine aw_lens (x := .agg [slPoint false s.Points]) 1 rfl (fun len_s => ?_)
  simp [LenOK, LenL, cPoint, fPoint, slPoint] at len_s
  refine aw_seq ?_
  refine aw_reg [(0, .new 2), (1, .new 3), (2, .new 4)] [2, 3, 4] [2, 3, 4] [.ref 2 0, .ref 3 0, .ref 4 0] [some (bxCellRow l), some (.box [slPoint false s.Points]), some (.box [I 0, I 0, I 0])] [] (by kernel_rfl) hB trivial ?_
  refine ae_then ?_
  refine aw_seq ?_
  refine aw_seq ?_
  rcases Bool.eq_false_or_eq_true (okRow l) with h1 | h1
  ·rcases Bool.eq_false_or_eq_true (okStroke' s) with h2 | h2
   ·refine aw_reg [(0, .call [(false, .ptr false [Sv l.Text, I l.X, I l.Y, I l.Cell])] true (Bv true)), (3, .call [(false, .ptr false [slPoint false s.Points])] true (Bv true))] [2, 3, 4, 11] [2, 3, 4] [.ref 2 0, .ref 3 0, .ref 4 0, Bv false] [some (bxCellRow l), some (.box [slPoint false s.Points]), some (.box [I 0, I 0, I 0])] [Con Tryz.prog 45 [.ptr false [Sv l.Text, I l.X, I l.Y, I l.Cell]] true (Bv true) ∧ ((false = true → true = true) ∧ AV.idsL [Sv l.Text, I l.X, I l.Y, I l.Cell] = [] ∧ (valOf (Sv l.Text) = valOf (Sv l.Text)) ∧ (valOf (I l.X) = valOf (I l.X)) ∧ (valOf (I l.Y) = valOf (I l.Y)) ∧ (valOf (I l.Cell) = valOf (I l.Cell)) ∧ ([] : List AV) = []) ∧ True, Con Tryz.prog 35 [.ptr false [slPoint false s.Points]] true (Bv true) ∧ ((false = true → true = true) ∧ AV.idsL [slPoint false s.Points] = [] ∧ ((false = true → false = true) ∧ 3 = 3 ∧ s.Points.length = s.Points.length ∧ ∀ i, i < s.Points.length → (fPoint s.Points) i = (fPoint s.Points) i ∨ (AV.idsL ((fPoint s.Points) i) = [] ∧ leL (fun _ => none) false ((fPoint s.Points) i) ((fPoint s.Points) i))) ∧ ([] : List AV) = []) ∧ True] (by kernel_rfl) hB ⟨⟨(con_bool h1 (l23Ok_ok l okl)), ⟨(fun h => by cases h), rfl, ⟨rfl, ⟨rfl, ⟨rfl, ⟨rfl, rfl⟩⟩⟩⟩⟩, trivial⟩, ⟨(con_bool h2 (l02Stroke_ok s)), ⟨(fun h => by cases h), rfl, ⟨⟨(fun h => by cases h), rfl, rfl, fun i _ => .inl rfl⟩, rfl⟩⟩, trivial⟩, trivial⟩ ?_
    refine ae_then ?_
    refine aw_false rfl ?_
    refine aw_skip ?_
    refine ae_then ?_
    refine aw_seq ?_
    refine aw_reg [(0, .call [(false, .ptr false [Sv l.Text, I l.X, I l.Y, I l.Cell]), (false, .ptr false [slPoint false s.Points])] true (.tup [agEdit ((editR l s).1), I ((editR l s).2)]))] [4, 5] [4] [.ref 4 0, I ((editR l s).2)] [some (bxEdit ((editR l s).1))] [Con Tryz.prog 57 [.ptr false [Sv l.Text, I l.X, I l.Y, I l.Cell], .ptr false [slPoint false s.Points]] true (.tup [agEdit ((editR l s).1), I ((editR l s).2)]) ∧ ((false = true → true = true) ∧ AV.idsL [Sv l.Text, I l.X, I l.Y, I l.Cell] = [] ∧ (valOf (Sv l.Text) = valOf (Sv l.Text)) ∧ (valOf (I l.X) = valOf (I l.X)) ∧ (valOf (I l.Y) = valOf (I l.Y)) ∧ (valOf (I l.Cell) = valOf (I l.Cell)) ∧ ([] : List AV) = []) ∧ ((false = true → true = true) ∧ AV.idsL [slPoint false s.Points] = [] ∧ ((false = true → false = true) ∧ 3 = 3 ∧ s.Points.length = s.Points.length ∧ ∀ i, i < s.Points.length → (fPoint s.Points) i = (fPoint s.Points) i ∨ (AV.idsL ((fPoint s.Points) i) = [] ∧ leL (fun _ => none) false ((fPoint s.Points) i) ((fPoint s.Points) i))) ∧ ([] : List AV) = []) ∧ True] (by kernel_rfl) hB ⟨⟨(l23Edit_ok l s (by assumption) (by assumption)), ⟨(fun h => by cases h), rfl, ⟨rfl, ⟨rfl, ⟨rfl, ⟨rfl, rfl⟩⟩⟩⟩⟩, ⟨(fun h => by cases h), rfl, ⟨⟨(fun h => by cases h), rfl, rfl, fun i _ => .inl rfl⟩, rfl⟩⟩, trivial⟩, trivial⟩ ?_
    refine ae_then ?_
    refine aw_ret ?_
    refine ae_ret hB (.tup [agEdit ((editR l s).1), I ((editR l s).2)]) (by kernel_rfl) (.inl (by simp [editOfR, *])) rfl (fun _ => (by simp [tagged, taggedL]))
   ·refine aw_reg [(0, .call [(false, .ptr false [Sv l.Text, I l.X, I l.Y, I l.Cell])] true (Bv true)), (3, .call [(false, .ptr false [slPoint false s.Points])] true (Bv false))] [2, 3, 4, 11] [2, 3, 4] [.ref 2 0, .ref 3 0, .ref 4 0, Bv true] [some (bxCellRow l), some (.box [slPoint false s.Points]), some (.box [I 0, I 0, I 0])] [Con Tryz.prog 45 [.ptr false [Sv l.Text, I l.X, I l.Y, I l.Cell]] true (Bv true) ∧ ((false = true → true = true) ∧ AV.idsL [Sv l.Text, I l.X, I l.Y, I l.Cell] = [] ∧ (valOf (Sv l.Text) = valOf (Sv l.Text)) ∧ (valOf (I l.X) = valOf (I l.X)) ∧ (valOf (I l.Y) = valOf (I l.Y)) ∧ (valOf (I l.Cell) = valOf (I l.Cell)) ∧ ([] : List AV) = []) ∧ True, Con Tryz.prog 35 [.ptr false [slPoint false s.Points]] true (Bv false) ∧ ((false = true → true = true) ∧ AV.idsL [slPoint false s.Points] = [] ∧ ((false = true → false = true) ∧ 3 = 3 ∧ s.Points.length = s.Points.length ∧ ∀ i, i < s.Points.length → (fPoint s.Points) i = (fPoint s.Points) i ∨ (AV.idsL ((fPoint s.Points) i) = [] ∧ leL (fun _ => none) false ((fPoint s.Points) i) ((fPoint s.Points) i))) ∧ ([] : List AV) = []) ∧ True] (by kernel_rfl) hB ⟨⟨(con_bool h1 (l23Ok_ok l okl)), ⟨(fun h => by cases h), rfl, ⟨rfl, ⟨rfl, ⟨rfl, ⟨rfl, rfl⟩⟩⟩⟩⟩, trivial⟩, ⟨(con_bool h2 (l02Stroke_ok s)), ⟨(fun h => by cases h), rfl, ⟨⟨(fun h => by cases h), rfl, rfl, fun i _ => .inl rfl⟩, rfl⟩⟩, trivial⟩, trivial⟩ ?_
    refine ae_then ?_
    refine aw_true rfl ?_
    refine aw_seq ?_
    refine aw_reg [] [4, 5] [4] [.ref 4 0, I 1] [some (.box [I 0, I 0, I 0])] [] (by kernel_rfl) hB trivial ?_
    refine ae_then ?_
    refine aw_ret ?_
    refine ae_ret_then ?_
    refine ae_ret hB (.tup [.agg [I 0, I 0, I 0], I 1]) (by kernel_rfl) (.inl (by simp [editOfR, *])) rfl (fun _ => (by simp [tagged, taggedL]))
  ·refine aw_reg [(0, .call [(false, .ptr false [Sv l.Text, I l.X, I l.Y, I l.Cell])] true (Bv false))] [2, 3, 4, 11] [2, 3, 4] [.ref 2 0, .ref 3 0, .ref 4 0, Bv true] [some (bxCellRow l), some (.box [slPoint false s.Points]), some (.box [I 0, I 0, I 0])] [Con Tryz.prog 45 [.ptr false [Sv l.Text, I l.X, I l.Y, I l.Cell]] true (Bv false) ∧ ((false = true → true = true) ∧ AV.idsL [Sv l.Text, I l.X, I l.Y, I l.Cell] = [] ∧ (valOf (Sv l.Text) = valOf (Sv l.Text)) ∧ (valOf (I l.X) = valOf (I l.X)) ∧ (valOf (I l.Y) = valOf (I l.Y)) ∧ (valOf (I l.Cell) = valOf (I l.Cell)) ∧ ([] : List AV) = []) ∧ True] (by kernel_rfl) hB ⟨⟨(con_bool h1 (l23Ok_ok l okl)), ⟨(fun h => by cases h), rfl, ⟨rfl, ⟨rfl, ⟨rfl, ⟨rfl, rfl⟩⟩⟩⟩⟩, trivial⟩, trivial⟩ ?_
   refine ae_then ?_
   refine aw_true rfl ?_
   refine aw_seq ?_
   refine aw_reg [] [4, 5] [4] [.ref 4 0, I 1] [some (.box [I 0, I 0, I 0])] [] (by kernel_rfl) hB trivial ?_
   refine ae_then ?_
   refine aw_ret ?_
   refine ae_ret_then ?_
   refine ae_ret hB (.tup [.agg [I 0, I 0, I 0], I 1]) (by kernel_rfl) (.inl (by simp [editOfR, *])) rfl (fun _ => (by simp [tagged, taggedL]))


theorem app_list (a b : ByteArray) : (a ++ b).data.toList = a.data.toList ++ b.data.toList := by simp [ByteArray.data_append]
theorem ext_mem {s : ByteArray} {a b : Nat} {x : UInt8} (h : x ∈ (s.extract a b).data.toList) : x ∈ s.data.toList := by
  rw [ByteArray.data_extract, Array.toList_extract] at h
  simp only [List.extract_eq_take_drop] at h
  exact List.mem_of_mem_drop (List.mem_of_mem_take h)
theorem applyL_ok {l : CellRow} {e : Edit} {ins : ByteArray} (h : chkI l e ins = 0) : okRow (applyL l e ins) = true := by
  have hck := chk_ok h
  have hr := okRow_iff.1 hck.1
  refine okRow_iff.2 ⟨?_, ?_, hr.2.2⟩
  · rw [lettersB_iff]
    intro x hx
    have h1 := lettersB_iff.1 hr.1
    have h2 := lettersB_iff.1 hck.2.1
    simp only [applyL, applyT, app_list, List.mem_append] at hx
    rcases hx with (hx | hx) | hx
    · exact h1 x (ext_mem hx)
    · split at hx
      · simp at hx
      · exact h2 x hx
    · exact h1 x (ext_mem hx)
  · simp only [applyL, applyT, ByteArray.size_append, ba_ext]
    split
    · simp only [ba_nil]; omega
    · omega

theorem placeS_bd (l : CellRow) (x : Int) : ∀ k : Nat, 0 ≤ placeS l x k ∧ placeS l x k ≤ (k : Int)
  | 0 => ⟨by simp [placeS], by simp [placeS]⟩
  | k + 1 => by
    have := placeS_bd l x k
    unfold placeS
    split <;> omega
theorem lettersB_nil : lettersB ⟨#[]⟩ = true := by rw [lettersB_iff]; intro x hx; simp at hx
/-- An edit that a stroke means can be applied. -/
theorem edit_ok {r : CellRow} {s : Stroke} (h : (editOfR r s).2 = 0) : chkI r (editOfR r s).1 ⟨#[]⟩ = 0 := by
  unfold editOfR at h ⊢
  split at h
  · rename_i h1
    rw [if_pos h1]
    have hr := okRow_iff.1 h1.1
    unfold editR at h ⊢
    split at h
    · cases h
    · rename_i h2
      rw [if_neg h2]
      split at h
      · cases h
      · rename_i h3
        rw [if_neg h3]
        split at h
        · rename_i h4
          rw [if_pos h4]
          have hp := placeS_bd r (at_ s.Points (tipS s.Points s.Points.length)).X r.Text.size
          refine chk_0 h1.1 lettersB_nil (inB_iff.2 ⟨by simp only; omega, by simp only; omega⟩) ⟨⟨hp.1, Int.le_refl _⟩, hp.2, fun _ => rfl⟩ ?_
          simp only [ba_nil]; omega
        · rename_i h4
          rw [if_neg h4]
          split at h
          · cases h
          · rename_i h5
            rw [if_neg h5]
            have hb := spanS_bd r (boxS s.Points s.Points.length) r.Text.size
            have hk : kindI s = 1 ∨ kindI s = 2 := by
              unfold kindI at h2 h4 ⊢
              split <;> simp_all
              split <;> simp_all
            refine chk_0 h1.1 lettersB_nil (inB_iff.2 ⟨by simp only; omega, by simp only; omega⟩) ⟨⟨by simp only; omega, by simp only; omega⟩, by simp only; omega, fun e => absurd e (by simp only; omega)⟩ ?_
            simp only [ba_nil]; omega
  · cases h
theorem ba_inj {a b : ByteArray} (h : a.data.toList = b.data.toList) : a = b := by
  cases a; cases b
  simp only [ByteArray.mk.injEq]
  exact Array.toList_inj.1 h
theorem ext_list (s : ByteArray) (a b : Nat) : (s.extract a b).data.toList = (s.data.toList.drop a).take (b - a) := by
  rw [ByteArray.data_extract, Array.toList_extract]
theorem list_back {L M : List UInt8} {f t : Nat} (hf : f ≤ t) (ht : t ≤ L.length) : ((L.take f ++ M ++ L.drop t).take f) ++ ((L.drop f).take (t - f)) ++ ((L.take f ++ M ++ L.drop t).drop (f + M.length)) = L := by
  have h1 : (L.take f).length = f := by simp; omega
  have e1 : (L.take f ++ M ++ L.drop t).take f = L.take f := by
    rw [List.append_assoc, List.take_append_of_le_length (by omega), List.take_of_length_le (by omega)]
  have e2 : (L.take f ++ M ++ L.drop t).drop (f + M.length) = L.drop t := by
    rw [List.drop_append]
    simp
    rw [List.drop_of_length_le (by simp; omega)]
    simp
    congr 1
    omega
  rw [e1, e2]
  have e3 : L.drop t = (L.drop f).drop (t - f) := by rw [List.drop_drop]; congr 1; omega
  rw [e3, List.append_assoc, List.take_append_drop, List.take_append_drop]
section
variable {l : CellRow} {e : Edit} {ins : ByteArray}
theorem applyT_list (l : CellRow) (e : Edit) (ins : ByteArray) : (applyT l e ins).data.toList = l.Text.data.toList.take e.From.toNat ++ (if e.Kind = 1 then (⟨#[]⟩ : ByteArray) else ins).data.toList ++ l.Text.data.toList.drop e.To.toNat := by
  unfold applyT
  rw [app_list, app_list, ext_list, ext_list]
  simp only [List.drop_zero, Nat.sub_zero]
  congr 1
  have : l.Text.size = l.Text.data.toList.length := by rw [Array.length_toList]; rfl
  rw [this, List.take_of_length_le (by simp)]
theorem lettersB_ext {s : ByteArray} (h : lettersB s = true) (a b : Nat) : lettersB (s.extract a b) = true := lettersB_iff.2 fun x hx => lettersB_iff.1 h x (ext_mem hx)
/-- The inverse of an edit takes it back. -/
theorem edit_back (h : chkI l e ins = 0) : chkI (applyL l e ins) (invE l e ins) (invT l e ins) = 0 ∧ applyL (applyL l e ins) (invE l e ins) (invT l e ins) = l := by
  have hck := chk_ok h
  have hr := okRow_iff.1 hck.1
  have hok := applyL_ok h
  have hro := okRow_iff.1 hok
  obtain ⟨c1, c2, c3, c4, c5, c6, c7⟩ := hck
  obtain ⟨M, hM⟩ : ∃ M : ByteArray, M = if e.Kind = 1 then (⟨#[]⟩ : ByteArray) else ins := ⟨_, rfl⟩
  have hT := applyT_list l e ins
  rw [← hM] at hT
  have hL : l.Text.size = l.Text.data.toList.length := by rw [Array.length_toList]; rfl
  have hMs : M.size = M.data.toList.length := by rw [Array.length_toList]; rfl
  have hTs : (applyT l e ins).size = (applyT l e ins).data.toList.length := by rw [Array.length_toList]; rfl
  have hsz : (applyT l e ins).size = e.From.toNat + M.size + (l.Text.size - e.To.toNat) := by
    rw [hTs, hT, hMs, hL]
    simp
    omega
  have hback := list_back (L := l.Text.data.toList) (M := M.data.toList) (f := e.From.toNat) (t := e.To.toNat) (by omega) (by omega)
  have hEF : (invE l e ins).From = e.From := by unfold invE; rw [if_pos h]; split <;> (try split) <;> rfl
  have hold : (if (invE l e ins).Kind = 1 then (⟨#[]⟩ : ByteArray) else invT l e ins) = l.Text.extract e.From.toNat e.To.toNat := by
    unfold invE invT
    rw [if_pos h, if_pos h]
    by_cases k1 : e.Kind = 1
    · rw [if_pos k1, if_neg (by simp only; omega), if_neg (by omega)]
    · rw [if_neg k1]
      by_cases k3 : e.Kind = 3
      · rw [if_pos k3, if_pos rfl]
        refine ba_inj ?_
        rw [ext_list, c6 k3]
        simp
      · rw [if_neg k3, if_neg (by simp only; omega), if_neg k3]
  have hET : (invE l e ins).To = e.From + (M.size : Int) := by
    unfold invE
    rw [if_pos h, hM]
    by_cases k1 : e.Kind = 1
    · rw [if_pos k1, if_pos k1]; simp [ba_nil]
    · rw [if_neg k1, if_neg k1]
      split <;> rfl
  constructor
  · have hKe : (invE l e ins).Kind = 1 ∨ (invE l e ins).Kind = 2 ∨ (invE l e ins).Kind = 3 := by unfold invE; rw [if_pos h]; split <;> (try split) <;> simp
    have hK3 : (invE l e ins).Kind = 3 → M.size = 0 := by
      unfold invE; rw [if_pos h, hM]
      by_cases k1 : e.Kind = 1
      · rw [if_pos k1, if_pos k1]; intro _; rfl
      · rw [if_neg k1]; split <;> (intro q; simp at q)
    have hlt : lettersB (invT l e ins) = true := by
      unfold invT
      rw [if_pos h]
      split
      · exact lettersB_nil
      · exact lettersB_ext hr.1 _ _
    have hts : ((applyL l e ins).Text.size : Int) = e.From + (M.size : Int) + ((l.Text.size : Int) - e.To) := by
      show ((applyT l e ins).size : Int) = _
      rw [hsz]; omega
    have his : (invE l e ins).Kind ≠ 1 → ((invT l e ins).size : Int) = e.To - e.From := by
      intro hk
      rw [if_neg hk] at hold
      rw [hold, ba_ext]
      omega
    refine chk_0 hok hlt (inB_iff.2 (by omega)) ⟨⟨by omega, by omega⟩, by omega, fun q => by have := hK3 q; omega⟩ ?_
    rintro ⟨q1, q2⟩
    have := his q1
    omega
  · have ht : applyT (applyL l e ins) (invE l e ins) (invT l e ins) = l.Text := by
      refine ba_inj ?_
      rw [applyT_list, hold, hEF, hET, ext_list]
      show (applyT l e ins).data.toList.take _ ++ _ ++ (applyT l e ins).data.toList.drop _ = _
      have e2 : (e.From + (M.size : Int)).toNat = e.From.toNat + M.data.toList.length := by omega
      rw [hT, e2]
      exact hback
    unfold applyL at ht ⊢
    simp only at ht ⊢
    rw [ht]
theorem edit_back2 (h : chkI l e ins = 0) : chkI (applyRow l e ins) (invE l e ins) (invT l e ins) = 0 ∧ applyRow (applyRow l e ins) (invE l e ins) (invT l e ins) = l := by
  rw [applyRow_eq h]
  obtain ⟨a, b⟩ := edit_back h
  exact ⟨a, by rw [applyRow_eq a, b]⟩
theorem row_size (h : chkI l e ins = 0) : (applyRow l e ins).Text.size ≤ 60 := by
  rw [applyRow_eq h]
  have := (okRow_iff.1 (applyL_ok h)).2.1
  omega
theorem inv_size (h : chkI l e ins = 0) : (invT l e ins).size ≤ 60 := by
  have h1 := (okRow_iff.1 (chk_ok h).1).2.1
  unfold invT
  rw [if_pos h]
  split
  · decide
  · rw [ba_ext]; omega
end

/-- What is known of a line that was drawn. -/
def drawnRow (l : CellRow) : Prop := l.Text.size ≤ 300 ∧ (-1 ≤ l.X ∧ l.X ≤ 4096) ∧ (-1 ≤ l.Y ∧ l.Y ≤ 4096) ∧ (1 ≤ l.Cell ∧ l.Cell ≤ 61)
end Go.Proofs.YtebcbkejkpjeoaaGreatDoor.Ax
