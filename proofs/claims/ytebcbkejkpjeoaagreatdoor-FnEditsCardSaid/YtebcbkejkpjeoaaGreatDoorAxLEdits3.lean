/- Contracts that the statement FnEdits reaches, part 3. No conditions. -/
import Derived.Test.YtebcbkejkpjeoaaGreatDoorAxLEdits2
import Derived.LaidMore
import Derived.Lay
import Derived.OpenShut
import Derived.SevenTiedAt
import Derived.Shelf.Strings.SlTrimAscii
import Derived.Stop.Joined
namespace Go.Proofs.YtebcbkejkpjeoaaGreatDoor.Ax
open Go.RowKit Go.ChangeShapes Go.WideShapes
set_option linter.unusedVariables false
set_option linter.unusedSimpArgs false


-- spec.l23Stroke
theorem l23Stroke_ok (s : l00Src) (l : CellRow) (hs : okSrc s) (ha : s.atx ≤ 3999999999999991000) (hr : (-1 ≤ l.X ∧ l.X ≤ 4096) ∧ (-1 ≤ l.Y ∧ l.Y ≤ 4096)) : ∃ (v : Stroke) (s' : l00Src), (okSrc s') ∧ (s'.code = s.code) ∧ (s.atx + 0 ≤ s'.atx ∧ s'.atx ≤ s.atx + 4000) ∧ CallOK Tryz.prog 32 [.ref 7001 0, .ptr false [Sv l.Text, I l.X, I l.Y, I l.Cell]] (lookO [(7001, bxl00Src s)]) true (.agg [slPoint true v.Points]) (lookO [(7001, bxl00Src s')]) := by
  have hh : ∃ r : Stroke × l00Src, ((okSrc r.2) ∧ (r.2.code = s.code) ∧ (s.atx + 0 ≤ r.2.atx ∧ r.2.atx ≤ s.atx + 4000) ∧ (True)) ∧ CallOK Tryz.prog 32 [.ref 7001 0, .ptr false [Sv l.Text, I l.X, I l.Y, I l.Cell]] (lookO [(7001, bxl00Src s)]) true (.agg [slPoint true r.1.Points]) (lookO [(7001, bxl00Src r.2)]) := by
    refine fn_okX (Φ := fun r : Stroke × l00Src => (okSrc r.2) ∧ (r.2.code = s.code) ∧ (s.atx + 0 ≤ r.2.atx ∧ r.2.atx ≤ s.atx + 4000) ∧ (True)) [(7001, bxl00Src s)] (fun r => [(7001, bxl00Src r.2)]) (fn := Tryz.f32) (nt := 136) Tryz.func32 rfl rfl (args := [.ref 7001 0, .ptr false [Sv l.Text, I l.X, I l.Y, I l.Cell]]) rfl (allcons (.inr trivial) (allcons (.inl ⟨rfl, by simp [tagged, taggedL]⟩) allnil)) (res := fun r => .agg [slPoint true r.1.Points]) ?_
    refine x_seq ?_
    refine x_reg [(0, .new 4)] [0, 1, 4] [4, 7001] [.ref 7001 0, .ptr false [Sv l.Text, I l.X, I l.Y, I l.Cell], .ref 4 0] [some (.box [nilA]), some (bxl00Src s)] [] (by kernel_rfl) trivial ?_
    refine xe_then ?_
    refine x_seq ?_
    obtain ⟨v_1, s'_1, hx1_0, hx1_1, hx1_2, hx1_3, hc1⟩ := pick_ok s 200 (by first | assumption | (simp only [okSrc] at *; simp_all; done)) (by omega)
    refine x_reg [(5, .lend [(7001, bxl00Src s, bxl00Src s'_1)] [] [(true, .ref 7001 0), (true, I 200)] true (I v_1))] [0, 1, 4, 5] [4, 7001] [.ref 7001 0, .ptr false [Sv l.Text, I l.X, I l.Y, I l.Cell], .ref 4 0, I ((l.X + v_1) - 20)] [some (.box [nilA]), some (bxl00Src s'_1)] [CallOK Tryz.prog 39 [.ref 7001 0, I 200] (lookO [(7001, bxl00Src s)]) true (I v_1) (lookO [(7001, bxl00Src s'_1)]) ∧ ((.ref 7001 0 : AV) = .ref 7001 0) ∧ ((I 200 : AV) = I 200) ∧ (((bxl00Src s : Ob) = bxl00Src s ∨ obLe noOb true (bxl00Src s) (bxl00Src s)) ∧ taggedO false (bxl00Src s)) ∧ True, inR .i64 (l.X + v_1), inR .i64 ((l.X + v_1) - 20)] (by kernel_rfl) ⟨⟨hc1, rfl, rfl, ⟨.inl rfl, (by simp [taggedO, taggedL, tagged, tagU8])⟩, trivial⟩, (inR_i64 (by omega) (by omega)), (inR_i64 (by omega) (by omega)), trivial⟩ ?_
    refine xe_then ?_
    refine x_seq ?_
    obtain ⟨v_2, s'_2, hx2_0, hx2_1, hx2_2, hx2_3, hc2⟩ := pick_ok s'_1 30 (by first | assumption | (simp only [okSrc] at *; simp_all; done)) (by omega)
    refine x_reg [(5, .lend [(7001, bxl00Src s'_1, bxl00Src s'_2)] [] [(true, .ref 7001 0), (true, I 30)] true (I v_2))] [0, 4, 5, 6] [4, 7001] [.ref 7001 0, .ref 4 0, I ((l.X + v_1) - 20), I (l.Y + v_2)] [some (.box [nilA]), some (bxl00Src s'_2)] [CallOK Tryz.prog 39 [.ref 7001 0, I 30] (lookO [(7001, bxl00Src s'_1)]) true (I v_2) (lookO [(7001, bxl00Src s'_2)]) ∧ ((.ref 7001 0 : AV) = .ref 7001 0) ∧ ((I 30 : AV) = I 30) ∧ (((bxl00Src s'_1 : Ob) = bxl00Src s'_1 ∨ obLe noOb true (bxl00Src s'_1) (bxl00Src s'_1)) ∧ taggedO false (bxl00Src s'_1)) ∧ True, inR .i64 (l.Y + v_2)] (by kernel_rfl) ⟨⟨hc2, rfl, rfl, ⟨.inl rfl, (by simp [taggedO, taggedL, tagged, tagU8])⟩, trivial⟩, (inR_i64 (by omega) (by omega)), trivial⟩ ?_
    refine xe_then ?_
    refine x_seq ?_
    obtain ⟨v_3, s'_3, hx3_0, hx3_1, hx3_2, hx3_3, hc3⟩ := pick_ok s'_2 80 (by first | assumption | (simp only [okSrc] at *; simp_all; done)) (by omega)
    refine x_reg [(1, .lend [(7001, bxl00Src s'_2, bxl00Src s'_3)] [] [(true, .ref 7001 0), (true, I 80)] true (I v_3))] [0, 4, 5, 6, 7] [4, 7001] [.ref 7001 0, .ref 4 0, I ((l.X + v_1) - 20), I (l.Y + v_2), I (20 + v_3)] [some (.box [nilA]), some (bxl00Src s'_3)] [CallOK Tryz.prog 39 [.ref 7001 0, I 80] (lookO [(7001, bxl00Src s'_2)]) true (I v_3) (lookO [(7001, bxl00Src s'_3)]) ∧ ((.ref 7001 0 : AV) = .ref 7001 0) ∧ ((I 80 : AV) = I 80) ∧ (((bxl00Src s'_2 : Ob) = bxl00Src s'_2 ∨ obLe noOb true (bxl00Src s'_2) (bxl00Src s'_2)) ∧ taggedO false (bxl00Src s'_2)) ∧ True, inR .i64 (20 + v_3)] (by kernel_rfl) ⟨⟨hc3, rfl, rfl, ⟨.inl rfl, (by simp [taggedO, taggedL, tagged, tagU8])⟩, trivial⟩, (inR_i64 (by omega) (by omega)), trivial⟩ ?_
    refine xe_then ?_
    refine x_seq ?_
    obtain ⟨v_4, s'_4, hx4_0, hx4_1, hx4_2, hx4_3, hc4⟩ := pick_ok s'_3 30 (by first | assumption | (simp only [okSrc] at *; simp_all; done)) (by omega)
    refine x_reg [(1, .lend [(7001, bxl00Src s'_3, bxl00Src s'_4)] [] [(true, .ref 7001 0), (true, I 30)] true (I v_4))] [0, 4, 5, 6, 7, 8] [4, 7001] [.ref 7001 0, .ref 4 0, I ((l.X + v_1) - 20), I (l.Y + v_2), I (20 + v_3), I (10 + v_4)] [some (.box [nilA]), some (bxl00Src s'_4)] [CallOK Tryz.prog 39 [.ref 7001 0, I 30] (lookO [(7001, bxl00Src s'_3)]) true (I v_4) (lookO [(7001, bxl00Src s'_4)]) ∧ ((.ref 7001 0 : AV) = .ref 7001 0) ∧ ((I 30 : AV) = I 30) ∧ (((bxl00Src s'_3 : Ob) = bxl00Src s'_3 ∨ obLe noOb true (bxl00Src s'_3) (bxl00Src s'_3)) ∧ taggedO false (bxl00Src s'_3)) ∧ True, inR .i64 (10 + v_4)] (by kernel_rfl) ⟨⟨hc4, rfl, rfl, ⟨.inl rfl, (by simp [taggedO, taggedL, tagged, tagU8])⟩, trivial⟩, (inR_i64 (by omega) (by omega)), trivial⟩ ?_
    refine xe_then ?_
    refine x_seq ?_
    refine x_seq ?_
    obtain ⟨v_5, s'_5, hx5_0, hx5_1, hx5_2, hc5⟩ := one_ok s'_4 10 (by first | assumption | (simp only [okSrc] at *; simp_all; done)) (by omega)
    rcases Bool.eq_false_or_eq_true v_5 with h1 | h1
    ·subst h1
     refine x_reg [(1, .lend [(7001, bxl00Src s'_4, bxl00Src s'_5)] [] [(true, .ref 7001 0), (true, I 10)] true (Bv true))] [0, 4, 5, 6, 7, 8, 31] [4, 7001] [.ref 7001 0, .ref 4 0, I ((l.X + v_1) - 20), I (l.Y + v_2), I (20 + v_3), I (10 + v_4), Bv true] [some (.box [nilA]), some (bxl00Src s'_5)] [CallOK Tryz.prog 41 [.ref 7001 0, I 10] (lookO [(7001, bxl00Src s'_4)]) true (Bv true) (lookO [(7001, bxl00Src s'_5)]) ∧ ((.ref 7001 0 : AV) = .ref 7001 0) ∧ ((I 10 : AV) = I 10) ∧ (((bxl00Src s'_4 : Ob) = bxl00Src s'_4 ∨ obLe noOb true (bxl00Src s'_4) (bxl00Src s'_4)) ∧ taggedO false (bxl00Src s'_4)) ∧ True] (by kernel_rfl) ⟨⟨hc5, rfl, rfl, ⟨.inl rfl, (by simp [taggedO, taggedL, tagged, tagU8])⟩, trivial⟩, trivial⟩ ?_
     refine xe_then ?_
     refine x_true rfl ?_
     refine x_reg [] [0, 4, 5, 6, 7, 8] [4, 7001] [.ref 7001 0, .ref 4 0, I ((l.X + v_1) - 20), I ((l.Y + v_2) + 300), I (20 + v_3), I (10 + v_4)] [some (.box [nilA]), some (bxl00Src s'_5)] [inR .i64 ((l.Y + v_2) + 300)] (by kernel_rfl) ⟨(inR_i64 (by omega) (by omega)), trivial⟩ ?_
     refine xe_then ?_
     refine x_seq ?_
     refine x_seq ?_
     obtain ⟨v_6, s'_6, hx6_0, hx6_1, hx6_2, hx6_3, hc6⟩ := pick_ok s'_5 7 (by first | assumption | (simp only [okSrc] at *; simp_all; done)) (by omega)
     refine x_reg [(1, .lend [(7001, bxl00Src s'_5, bxl00Src s'_6)] [] [(true, .ref 7001 0), (true, I 7)] true (I v_6))] [0, 4, 5, 6, 7, 8, 35] [4, 7001] [.ref 7001 0, .ref 4 0, I ((l.X + v_1) - 20), I ((l.Y + v_2) + 300), I (20 + v_3), I (10 + v_4), I v_6] [some (.box [nilA]), some (bxl00Src s'_6)] [CallOK Tryz.prog 39 [.ref 7001 0, I 7] (lookO [(7001, bxl00Src s'_5)]) true (I v_6) (lookO [(7001, bxl00Src s'_6)]) ∧ ((.ref 7001 0 : AV) = .ref 7001 0) ∧ ((I 7 : AV) = I 7) ∧ (((bxl00Src s'_5 : Ob) = bxl00Src s'_5 ∨ obLe noOb true (bxl00Src s'_5) (bxl00Src s'_5)) ∧ taggedO false (bxl00Src s'_5)) ∧ True] (by kernel_rfl) ⟨⟨hc6, rfl, rfl, ⟨.inl rfl, (by simp [taggedO, taggedL, tagged, tagU8])⟩, trivial⟩, trivial⟩ ?_
     refine xe_then ?_
     refine x_block ?_
     refine x_seq ?_
     by_cases h2 : v_6 = 0
     ·refine x_reg [(0, .dec true)] [0, 4, 5, 6, 7, 8, 35, 36] [4, 7001] [.ref 7001 0, .ref 4 0, I ((l.X + v_1) - 20), I ((l.Y + v_2) + 300), I (20 + v_3), I (10 + v_4), I v_6, Bv true] [some (.box [nilA]), some (bxl00Src s'_6)] [v_6 = 0] (by kernel_rfl) ⟨h2, trivial⟩ ?_
      refine xe_then ?_
      refine x_true rfl ?_
      refine x_seq ?_
      obtain ⟨v_7, hc7⟩ := l23Path_ok ([((l.X + v_1) - 20), ((l.Y + v_2) + 300), (((l.X + v_1) - 20) + (20 + v_3)), (((l.Y + v_2) + 300) + 3), (((l.X + v_1) - 20) + 5), (((l.Y + v_2) + 300) + 6), ((((l.X + v_1) - 20) + (20 + v_3)) - 3), (((l.Y + v_2) + 300) + 9), ((l.X + v_1) - 20), (((l.Y + v_2) + 300) + 12)]) (by simp)
      refine x_reg [(20, .new 58), (21, .call [(false, slI false ([((l.X + v_1) - 20), ((l.Y + v_2) + 300), (((l.X + v_1) - 20) + (20 + v_3)), (((l.Y + v_2) + 300) + 3), (((l.X + v_1) - 20) + 5), (((l.Y + v_2) + 300) + 6), ((((l.X + v_1) - 20) + (20 + v_3)) - 3), (((l.Y + v_2) + 300) + 9), ((l.X + v_1) - 20), (((l.Y + v_2) + 300) + 12)]))] true (.agg [slPoint true v_7.Points]))] [4] [4, 7001] [.ref 4 0] [some (.box [slPoint true v_7.Points]), some (bxl00Src s'_6)] [inR .i64 (((l.X + v_1) - 20) + (20 + v_3)), inR .i64 (((l.Y + v_2) + 300) + 3), inR .i64 (((l.X + v_1) - 20) + 5), inR .i64 (((l.Y + v_2) + 300) + 6), inR .i64 (((l.X + v_1) - 20) + (20 + v_3)), inR .i64 ((((l.X + v_1) - 20) + (20 + v_3)) - 3), inR .i64 (((l.Y + v_2) + 300) + 9), inR .i64 (((l.Y + v_2) + 300) + 12), Con Tryz.prog 59 [slI false ([((l.X + v_1) - 20), ((l.Y + v_2) + 300), (((l.X + v_1) - 20) + (20 + v_3)), (((l.Y + v_2) + 300) + 3), (((l.X + v_1) - 20) + 5), (((l.Y + v_2) + 300) + 6), ((((l.X + v_1) - 20) + (20 + v_3)) - 3), (((l.Y + v_2) + 300) + 9), ((l.X + v_1) - 20), (((l.Y + v_2) + 300) + 12)])] true (.agg [slPoint true v_7.Points]) ∧ ((false = true → true = true) ∧ 1 = 1 ∧ 10 = (([((l.X + v_1) - 20), ((l.Y + v_2) + 300), (((l.X + v_1) - 20) + (20 + v_3)), (((l.Y + v_2) + 300) + 3), (((l.X + v_1) - 20) + 5), (((l.Y + v_2) + 300) + 6), ((((l.X + v_1) - 20) + (20 + v_3)) - 3), (((l.Y + v_2) + 300) + 9), ((l.X + v_1) - 20), (((l.Y + v_2) + 300) + 12)]).length) ∧ ∀ i, i < (([((l.X + v_1) - 20), ((l.Y + v_2) + 300), (((l.X + v_1) - 20) + (20 + v_3)), (((l.Y + v_2) + 300) + 3), (((l.X + v_1) - 20) + 5), (((l.Y + v_2) + 300) + 6), ((((l.X + v_1) - 20) + (20 + v_3)) - 3), (((l.Y + v_2) + 300) + 9), ((l.X + v_1) - 20), (((l.Y + v_2) + 300) + 12)]).length) → (litF [I ((l.X + v_1) - 20), I ((l.Y + v_2) + 300), I (((l.X + v_1) - 20) + (20 + v_3)), I (((l.Y + v_2) + 300) + 3), I (((l.X + v_1) - 20) + 5), I (((l.Y + v_2) + 300) + 6), I ((((l.X + v_1) - 20) + (20 + v_3)) - 3), I (((l.Y + v_2) + 300) + 9), I ((l.X + v_1) - 20), I (((l.Y + v_2) + 300) + 12)] 1) i = (fI ([((l.X + v_1) - 20), ((l.Y + v_2) + 300), (((l.X + v_1) - 20) + (20 + v_3)), (((l.Y + v_2) + 300) + 3), (((l.X + v_1) - 20) + 5), (((l.Y + v_2) + 300) + 6), ((((l.X + v_1) - 20) + (20 + v_3)) - 3), (((l.Y + v_2) + 300) + 9), ((l.X + v_1) - 20), (((l.Y + v_2) + 300) + 12)])) i ∨ (AV.idsL ((fI ([((l.X + v_1) - 20), ((l.Y + v_2) + 300), (((l.X + v_1) - 20) + (20 + v_3)), (((l.Y + v_2) + 300) + 3), (((l.X + v_1) - 20) + 5), (((l.Y + v_2) + 300) + 6), ((((l.X + v_1) - 20) + (20 + v_3)) - 3), (((l.Y + v_2) + 300) + 9), ((l.X + v_1) - 20), (((l.Y + v_2) + 300) + 12)])) i) = [] ∧ leL (fun _ => none) false ((litF [I ((l.X + v_1) - 20), I ((l.Y + v_2) + 300), I (((l.X + v_1) - 20) + (20 + v_3)), I (((l.Y + v_2) + 300) + 3), I (((l.X + v_1) - 20) + 5), I (((l.Y + v_2) + 300) + 6), I ((((l.X + v_1) - 20) + (20 + v_3)) - 3), I (((l.Y + v_2) + 300) + 9), I ((l.X + v_1) - 20), I (((l.Y + v_2) + 300) + 12)] 1) i) ((fI ([((l.X + v_1) - 20), ((l.Y + v_2) + 300), (((l.X + v_1) - 20) + (20 + v_3)), (((l.Y + v_2) + 300) + 3), (((l.X + v_1) - 20) + 5), (((l.Y + v_2) + 300) + 6), ((((l.X + v_1) - 20) + (20 + v_3)) - 3), (((l.Y + v_2) + 300) + 9), ((l.X + v_1) - 20), (((l.Y + v_2) + 300) + 12)])) i))) ∧ True] (by kernel_rfl) ⟨(inR_i64 (by omega) (by omega)), (inR_i64 (by omega) (by omega)), (inR_i64 (by omega) (by omega)), (inR_i64 (by omega) (by omega)), (inR_i64 (by omega) (by omega)), (inR_i64 (by omega) (by omega)), (inR_i64 (by omega) (by omega)), (inR_i64 (by omega) (by omega)), ⟨hc7, ⟨(fun h => by cases h), rfl, (by first | rfl | (simp; done) | (simp; omega) | omega), fun i hi => .inl (match i, hi with | 0, _ => rfl | 1, _ => rfl | 2, _ => rfl | 3, _ => rfl | 4, _ => rfl | 5, _ => rfl | 6, _ => rfl | 7, _ => rfl | 8, _ => rfl | 9, _ => rfl | (i + 10), h => absurd h (by simp))⟩, trivial⟩, trivial⟩ ?_
      refine xe_then ?_
      refine x_ret ?_
      refine xe_ret_block (xe_ret_then ?_)
      refine xe_end (v_7, s'_6) (show (okSrc s'_6) ∧ (s'_6.code = s.code) ∧ (s.atx + 0 ≤ s'_6.atx ∧ s'_6.atx ≤ s.atx + 4000) ∧ (True) from ⟨(by first | omega | assumption | rfl | (simp; done) | (simp; omega) | (simp_all; done)), (by first | omega | assumption | rfl | (simp; done) | (simp; omega) | (simp_all; done)), (by first | omega | assumption | rfl | (simp; done) | (simp; omega) | (simp_all; done)), trivial⟩) (⟨.inl rfl, trivial⟩) (.agg [slPoint true v_7.Points]) (by kernel_rfl) (.inl rfl) (fun _ => rfl) (fun _ => (by simp [tagged, taggedL, tagPoint]))
     ·refine x_reg [(0, .dec false)] [0, 4, 5, 6, 7, 8, 35, 36] [4, 7001] [.ref 7001 0, .ref 4 0, I ((l.X + v_1) - 20), I ((l.Y + v_2) + 300), I (20 + v_3), I (10 + v_4), I v_6, Bv false] [some (.box [nilA]), some (bxl00Src s'_6)] [¬ (v_6 = 0)] (by kernel_rfl) ⟨h2, trivial⟩ ?_
      refine xe_then ?_
      refine x_false rfl ?_
      refine x_seq ?_
      by_cases h3 : v_6 = 1
      ·refine x_reg [(0, .dec true)] [0, 4, 5, 6, 7, 8, 35, 60] [4, 7001] [.ref 7001 0, .ref 4 0, I ((l.X + v_1) - 20), I ((l.Y + v_2) + 300), I (20 + v_3), I (10 + v_4), I v_6, Bv true] [some (.box [nilA]), some (bxl00Src s'_6)] [v_6 = 1] (by kernel_rfl) ⟨h3, trivial⟩ ?_
       refine xe_then ?_
       refine x_true rfl ?_
       refine x_seq ?_
       obtain ⟨v_8, s'_8, hx8_0, hx8_1, hx8_2, hx8_3, hc8⟩ := pick_ok s'_6 6 (by first | assumption | (simp only [okSrc] at *; simp_all; done)) (by omega)
       obtain ⟨v_9, hc9⟩ := l23Path_ok ([((l.X + v_1) - 20), ((l.Y + v_2) + 300), (((l.X + v_1) - 20) + (20 + v_3)), ((l.Y + v_2) + 300), (((l.X + v_1) - 20) + (20 + v_3)), (((l.Y + v_2) + 300) + (10 + v_4)), ((l.X + v_1) - 20), (((l.Y + v_2) + 300) + (10 + v_4)), ((l.X + v_1) - 20), (((l.Y + v_2) + 300) + v_8)]) (by simp)
       refine x_reg [(19, .lend [(7001, bxl00Src s'_6, bxl00Src s'_8)] [] [(true, .ref 7001 0), (true, I 6)] true (I v_8)), (21, .new 83), (22, .call [(false, slI false ([((l.X + v_1) - 20), ((l.Y + v_2) + 300), (((l.X + v_1) - 20) + (20 + v_3)), ((l.Y + v_2) + 300), (((l.X + v_1) - 20) + (20 + v_3)), (((l.Y + v_2) + 300) + (10 + v_4)), ((l.X + v_1) - 20), (((l.Y + v_2) + 300) + (10 + v_4)), ((l.X + v_1) - 20), (((l.Y + v_2) + 300) + v_8)]))] true (.agg [slPoint true v_9.Points]))] [4] [4, 7001] [.ref 4 0] [some (.box [slPoint true v_9.Points]), some (bxl00Src s'_8)] [inR .i64 (((l.X + v_1) - 20) + (20 + v_3)), inR .i64 (((l.X + v_1) - 20) + (20 + v_3)), inR .i64 (((l.Y + v_2) + 300) + (10 + v_4)), inR .i64 (((l.Y + v_2) + 300) + (10 + v_4)), CallOK Tryz.prog 39 [.ref 7001 0, I 6] (lookO [(7001, bxl00Src s'_6)]) true (I v_8) (lookO [(7001, bxl00Src s'_8)]) ∧ ((.ref 7001 0 : AV) = .ref 7001 0) ∧ ((I 6 : AV) = I 6) ∧ (((bxl00Src s'_6 : Ob) = bxl00Src s'_6 ∨ obLe noOb true (bxl00Src s'_6) (bxl00Src s'_6)) ∧ taggedO false (bxl00Src s'_6)) ∧ True, inR .i64 (((l.Y + v_2) + 300) + v_8), Con Tryz.prog 59 [slI false ([((l.X + v_1) - 20), ((l.Y + v_2) + 300), (((l.X + v_1) - 20) + (20 + v_3)), ((l.Y + v_2) + 300), (((l.X + v_1) - 20) + (20 + v_3)), (((l.Y + v_2) + 300) + (10 + v_4)), ((l.X + v_1) - 20), (((l.Y + v_2) + 300) + (10 + v_4)), ((l.X + v_1) - 20), (((l.Y + v_2) + 300) + v_8)])] true (.agg [slPoint true v_9.Points]) ∧ ((false = true → true = true) ∧ 1 = 1 ∧ 10 = (([((l.X + v_1) - 20), ((l.Y + v_2) + 300), (((l.X + v_1) - 20) + (20 + v_3)), ((l.Y + v_2) + 300), (((l.X + v_1) - 20) + (20 + v_3)), (((l.Y + v_2) + 300) + (10 + v_4)), ((l.X + v_1) - 20), (((l.Y + v_2) + 300) + (10 + v_4)), ((l.X + v_1) - 20), (((l.Y + v_2) + 300) + v_8)]).length) ∧ ∀ i, i < (([((l.X + v_1) - 20), ((l.Y + v_2) + 300), (((l.X + v_1) - 20) + (20 + v_3)), ((l.Y + v_2) + 300), (((l.X + v_1) - 20) + (20 + v_3)), (((l.Y + v_2) + 300) + (10 + v_4)), ((l.X + v_1) - 20), (((l.Y + v_2) + 300) + (10 + v_4)), ((l.X + v_1) - 20), (((l.Y + v_2) + 300) + v_8)]).length) → (litF [I ((l.X + v_1) - 20), I ((l.Y + v_2) + 300), I (((l.X + v_1) - 20) + (20 + v_3)), I ((l.Y + v_2) + 300), I (((l.X + v_1) - 20) + (20 + v_3)), I (((l.Y + v_2) + 300) + (10 + v_4)), I ((l.X + v_1) - 20), I (((l.Y + v_2) + 300) + (10 + v_4)), I ((l.X + v_1) - 20), I (((l.Y + v_2) + 300) + v_8)] 1) i = (fI ([((l.X + v_1) - 20), ((l.Y + v_2) + 300), (((l.X + v_1) - 20) + (20 + v_3)), ((l.Y + v_2) + 300), (((l.X + v_1) - 20) + (20 + v_3)), (((l.Y + v_2) + 300) + (10 + v_4)), ((l.X + v_1) - 20), (((l.Y + v_2) + 300) + (10 + v_4)), ((l.X + v_1) - 20), (((l.Y + v_2) + 300) + v_8)])) i ∨ (AV.idsL ((fI ([((l.X + v_1) - 20), ((l.Y + v_2) + 300), (((l.X + v_1) - 20) + (20 + v_3)), ((l.Y + v_2) + 300), (((l.X + v_1) - 20) + (20 + v_3)), (((l.Y + v_2) + 300) + (10 + v_4)), ((l.X + v_1) - 20), (((l.Y + v_2) + 300) + (10 + v_4)), ((l.X + v_1) - 20), (((l.Y + v_2) + 300) + v_8)])) i) = [] ∧ leL (fun _ => none) false ((litF [I ((l.X + v_1) - 20), I ((l.Y + v_2) + 300), I (((l.X + v_1) - 20) + (20 + v_3)), I ((l.Y + v_2) + 300), I (((l.X + v_1) - 20) + (20 + v_3)), I (((l.Y + v_2) + 300) + (10 + v_4)), I ((l.X + v_1) - 20), I (((l.Y + v_2) + 300) + (10 + v_4)), I ((l.X + v_1) - 20), I (((l.Y + v_2) + 300) + v_8)] 1) i) ((fI ([((l.X + v_1) - 20), ((l.Y + v_2) + 300), (((l.X + v_1) - 20) + (20 + v_3)), ((l.Y + v_2) + 300), (((l.X + v_1) - 20) + (20 + v_3)), (((l.Y + v_2) + 300) + (10 + v_4)), ((l.X + v_1) - 20), (((l.Y + v_2) + 300) + (10 + v_4)), ((l.X + v_1) - 20), (((l.Y + v_2) + 300) + v_8)])) i))) ∧ True] (by kernel_rfl) ⟨(inR_i64 (by omega) (by omega)), (inR_i64 (by omega) (by omega)), (inR_i64 (by omega) (by omega)), (inR_i64 (by omega) (by omega)), ⟨hc8, rfl, rfl, ⟨.inl rfl, (by simp [taggedO, taggedL, tagged, tagU8])⟩, trivial⟩, (inR_i64 (by omega) (by omega)), ⟨hc9, ⟨(fun h => by cases h), rfl, (by first | rfl | (simp; done) | (simp; omega) | omega), fun i hi => .inl (match i, hi with | 0, _ => rfl | 1, _ => rfl | 2, _ => rfl | 3, _ => rfl | 4, _ => rfl | 5, _ => rfl | 6, _ => rfl | 7, _ => rfl | 8, _ => rfl | 9, _ => rfl | (i + 10), h => absurd h (by simp))⟩, trivial⟩, trivial⟩ ?_
       refine xe_then ?_
       refine x_ret ?_
       refine xe_ret_block (xe_ret_then ?_)
       refine xe_end (v_9, s'_8) (show (okSrc s'_8) ∧ (s'_8.code = s.code) ∧ (s.atx + 0 ≤ s'_8.atx ∧ s'_8.atx ≤ s.atx + 4000) ∧ (True) from ⟨(by first | omega | assumption | rfl | (simp; done) | (simp; omega) | (simp_all; done)), (by first | omega | assumption | rfl | (simp; done) | (simp; omega) | (simp_all; done)), (by first | omega | assumption | rfl | (simp; done) | (simp; omega) | (simp_all; done)), trivial⟩) (⟨.inl rfl, trivial⟩) (.agg [slPoint true v_9.Points]) (by kernel_rfl) (.inl rfl) (fun _ => rfl) (fun _ => (by simp [tagged, taggedL, tagPoint]))
      ·refine x_reg [(0, .dec false)] [0, 4, 5, 6, 7, 8, 35, 60] [4, 7001] [.ref 7001 0, .ref 4 0, I ((l.X + v_1) - 20), I ((l.Y + v_2) + 300), I (20 + v_3), I (10 + v_4), I v_6, Bv false] [some (.box [nilA]), some (bxl00Src s'_6)] [¬ (v_6 = 1)] (by kernel_rfl) ⟨h3, trivial⟩ ?_
       refine xe_then ?_
       refine x_false rfl ?_
       refine x_seq ?_
       by_cases h4 : v_6 = 2
       ·refine x_reg [(0, .dec true)] [0, 4, 5, 6, 7, 8, 35, 85] [4, 7001] [.ref 7001 0, .ref 4 0, I ((l.X + v_1) - 20), I ((l.Y + v_2) + 300), I (20 + v_3), I (10 + v_4), I v_6, Bv true] [some (.box [nilA]), some (bxl00Src s'_6)] [v_6 = 2] (by kernel_rfl) ⟨h4, trivial⟩ ?_
        refine xe_then ?_
        refine x_true rfl ?_
        refine x_seq ?_
        obtain ⟨v_10, s'_10, hx10_0, hx10_1, hx10_2, hx10_3, hc10⟩ := pick_ok s'_6 4 (by first | assumption | (simp only [okSrc] at *; simp_all; done)) (by omega)
        obtain ⟨v_11, hc11⟩ := l23Path_ok ([((l.X + v_1) - 20), (((l.Y + v_2) + 300) + (10 + v_4)), (((l.X + v_1) - 20) + ((20 + v_3) / 2)), ((l.Y + v_2) + 300), (((l.X + v_1) - 20) + (20 + v_3)), ((((l.Y + v_2) + 300) + (10 + v_4)) - v_10)]) (by simp)
        refine x_reg [(6, .nn), (16, .lend [(7001, bxl00Src s'_6, bxl00Src s'_10)] [] [(true, .ref 7001 0), (true, I 4)] true (I v_10)), (18, .new 105), (19, .call [(false, slI false ([((l.X + v_1) - 20), (((l.Y + v_2) + 300) + (10 + v_4)), (((l.X + v_1) - 20) + ((20 + v_3) / 2)), ((l.Y + v_2) + 300), (((l.X + v_1) - 20) + (20 + v_3)), ((((l.Y + v_2) + 300) + (10 + v_4)) - v_10)]))] true (.agg [slPoint true v_11.Points]))] [4] [4, 7001] [.ref 4 0] [some (.box [slPoint true v_11.Points]), some (bxl00Src s'_10)] [inR .i64 (((l.Y + v_2) + 300) + (10 + v_4)), (0 : Int) ≤ (20 + v_3) ∧ (0 : Int) < 2 ∧ inR .i64 (20 + v_3), inR .i64 (((l.X + v_1) - 20) + ((20 + v_3) / 2)), inR .i64 (((l.X + v_1) - 20) + (20 + v_3)), inR .i64 (((l.Y + v_2) + 300) + (10 + v_4)), CallOK Tryz.prog 39 [.ref 7001 0, I 4] (lookO [(7001, bxl00Src s'_6)]) true (I v_10) (lookO [(7001, bxl00Src s'_10)]) ∧ ((.ref 7001 0 : AV) = .ref 7001 0) ∧ ((I 4 : AV) = I 4) ∧ (((bxl00Src s'_6 : Ob) = bxl00Src s'_6 ∨ obLe noOb true (bxl00Src s'_6) (bxl00Src s'_6)) ∧ taggedO false (bxl00Src s'_6)) ∧ True, inR .i64 ((((l.Y + v_2) + 300) + (10 + v_4)) - v_10), Con Tryz.prog 59 [slI false ([((l.X + v_1) - 20), (((l.Y + v_2) + 300) + (10 + v_4)), (((l.X + v_1) - 20) + ((20 + v_3) / 2)), ((l.Y + v_2) + 300), (((l.X + v_1) - 20) + (20 + v_3)), ((((l.Y + v_2) + 300) + (10 + v_4)) - v_10)])] true (.agg [slPoint true v_11.Points]) ∧ ((false = true → true = true) ∧ 1 = 1 ∧ 6 = (([((l.X + v_1) - 20), (((l.Y + v_2) + 300) + (10 + v_4)), (((l.X + v_1) - 20) + ((20 + v_3) / 2)), ((l.Y + v_2) + 300), (((l.X + v_1) - 20) + (20 + v_3)), ((((l.Y + v_2) + 300) + (10 + v_4)) - v_10)]).length) ∧ ∀ i, i < (([((l.X + v_1) - 20), (((l.Y + v_2) + 300) + (10 + v_4)), (((l.X + v_1) - 20) + ((20 + v_3) / 2)), ((l.Y + v_2) + 300), (((l.X + v_1) - 20) + (20 + v_3)), ((((l.Y + v_2) + 300) + (10 + v_4)) - v_10)]).length) → (litF [I ((l.X + v_1) - 20), I (((l.Y + v_2) + 300) + (10 + v_4)), I (((l.X + v_1) - 20) + ((20 + v_3) / 2)), I ((l.Y + v_2) + 300), I (((l.X + v_1) - 20) + (20 + v_3)), I ((((l.Y + v_2) + 300) + (10 + v_4)) - v_10)] 1) i = (fI ([((l.X + v_1) - 20), (((l.Y + v_2) + 300) + (10 + v_4)), (((l.X + v_1) - 20) + ((20 + v_3) / 2)), ((l.Y + v_2) + 300), (((l.X + v_1) - 20) + (20 + v_3)), ((((l.Y + v_2) + 300) + (10 + v_4)) - v_10)])) i ∨ (AV.idsL ((fI ([((l.X + v_1) - 20), (((l.Y + v_2) + 300) + (10 + v_4)), (((l.X + v_1) - 20) + ((20 + v_3) / 2)), ((l.Y + v_2) + 300), (((l.X + v_1) - 20) + (20 + v_3)), ((((l.Y + v_2) + 300) + (10 + v_4)) - v_10)])) i) = [] ∧ leL (fun _ => none) false ((litF [I ((l.X + v_1) - 20), I (((l.Y + v_2) + 300) + (10 + v_4)), I (((l.X + v_1) - 20) + ((20 + v_3) / 2)), I ((l.Y + v_2) + 300), I (((l.X + v_1) - 20) + (20 + v_3)), I ((((l.Y + v_2) + 300) + (10 + v_4)) - v_10)] 1) i) ((fI ([((l.X + v_1) - 20), (((l.Y + v_2) + 300) + (10 + v_4)), (((l.X + v_1) - 20) + ((20 + v_3) / 2)), ((l.Y + v_2) + 300), (((l.X + v_1) - 20) + (20 + v_3)), ((((l.Y + v_2) + 300) + (10 + v_4)) - v_10)])) i))) ∧ True] (by kernel_rfl) ⟨(inR_i64 (by omega) (by omega)), ⟨(by omega), (by omega), (inR_i64 (by omega) (by omega))⟩, (inR_i64 (by omega) (by omega)), (inR_i64 (by omega) (by omega)), (inR_i64 (by omega) (by omega)), ⟨hc10, rfl, rfl, ⟨.inl rfl, (by simp [taggedO, taggedL, tagged, tagU8])⟩, trivial⟩, (inR_i64 (by omega) (by omega)), ⟨hc11, ⟨(fun h => by cases h), rfl, (by first | rfl | (simp; done) | (simp; omega) | omega), fun i hi => .inl (match i, hi with | 0, _ => rfl | 1, _ => rfl | 2, _ => rfl | 3, _ => rfl | 4, _ => rfl | 5, _ => rfl | (i + 6), h => absurd h (by simp))⟩, trivial⟩, trivial⟩ ?_
        refine xe_then ?_
        refine x_ret ?_
        refine xe_ret_block (xe_ret_then ?_)
        refine xe_end (v_11, s'_10) (show (okSrc s'_10) ∧ (s'_10.code = s.code) ∧ (s.atx + 0 ≤ s'_10.atx ∧ s'_10.atx ≤ s.atx + 4000) ∧ (True) from ⟨(by first | omega | assumption | rfl | (simp; done) | (simp; omega) | (simp_all; done)), (by first | omega | assumption | rfl | (simp; done) | (simp; omega) | (simp_all; done)), (by first | omega | assumption | rfl | (simp; done) | (simp; omega) | (simp_all; done)), trivial⟩) (⟨.inl rfl, trivial⟩) (.agg [slPoint true v_11.Points]) (by kernel_rfl) (.inl rfl) (fun _ => rfl) (fun _ => (by simp [tagged, taggedL, tagPoint]))
       ·refine x_reg [(0, .dec false)] [0, 4, 5, 6, 7, 8, 35, 85] [4, 7001] [.ref 7001 0, .ref 4 0, I ((l.X + v_1) - 20), I ((l.Y + v_2) + 300), I (20 + v_3), I (10 + v_4), I v_6, Bv false] [some (.box [nilA]), some (bxl00Src s'_6)] [¬ (v_6 = 2)] (by kernel_rfl) ⟨h4, trivial⟩ ?_
        refine xe_then ?_
        refine x_false rfl ?_
        refine x_seq ?_
        by_cases h5 : v_6 = 3
        ·refine x_reg [(0, .dec true)] [0, 4, 5, 6, 7, 35, 107] [4, 7001] [.ref 7001 0, .ref 4 0, I ((l.X + v_1) - 20), I ((l.Y + v_2) + 300), I (20 + v_3), I v_6, Bv true] [some (.box [nilA]), some (bxl00Src s'_6)] [v_6 = 3] (by kernel_rfl) ⟨h5, trivial⟩ ?_
         refine xe_then ?_
         refine x_true rfl ?_
         refine x_seq ?_
         obtain ⟨v_12, s'_12, hx12_0, hx12_1, hx12_2, hx12_3, hc12⟩ := pick_ok s'_6 9 (by first | assumption | (simp only [okSrc] at *; simp_all; done)) (by omega)
         obtain ⟨v_13, hc13⟩ := l23Path_ok ([((l.X + v_1) - 20), ((l.Y + v_2) + 300), (((l.X + v_1) - 20) + (20 + v_3)), (((l.Y + v_2) + 300) + v_12)]) (by simp)
         refine x_reg [(7, .lend [(7001, bxl00Src s'_6, bxl00Src s'_12)] [] [(true, .ref 7001 0), (true, I 9)] true (I v_12)), (9, .new 118), (10, .call [(false, slI false ([((l.X + v_1) - 20), ((l.Y + v_2) + 300), (((l.X + v_1) - 20) + (20 + v_3)), (((l.Y + v_2) + 300) + v_12)]))] true (.agg [slPoint true v_13.Points]))] [4] [4, 7001] [.ref 4 0] [some (.box [slPoint true v_13.Points]), some (bxl00Src s'_12)] [inR .i64 (((l.X + v_1) - 20) + (20 + v_3)), CallOK Tryz.prog 39 [.ref 7001 0, I 9] (lookO [(7001, bxl00Src s'_6)]) true (I v_12) (lookO [(7001, bxl00Src s'_12)]) ∧ ((.ref 7001 0 : AV) = .ref 7001 0) ∧ ((I 9 : AV) = I 9) ∧ (((bxl00Src s'_6 : Ob) = bxl00Src s'_6 ∨ obLe noOb true (bxl00Src s'_6) (bxl00Src s'_6)) ∧ taggedO false (bxl00Src s'_6)) ∧ True, inR .i64 (((l.Y + v_2) + 300) + v_12), Con Tryz.prog 59 [slI false ([((l.X + v_1) - 20), ((l.Y + v_2) + 300), (((l.X + v_1) - 20) + (20 + v_3)), (((l.Y + v_2) + 300) + v_12)])] true (.agg [slPoint true v_13.Points]) ∧ ((false = true → true = true) ∧ 1 = 1 ∧ 4 = (([((l.X + v_1) - 20), ((l.Y + v_2) + 300), (((l.X + v_1) - 20) + (20 + v_3)), (((l.Y + v_2) + 300) + v_12)]).length) ∧ ∀ i, i < (([((l.X + v_1) - 20), ((l.Y + v_2) + 300), (((l.X + v_1) - 20) + (20 + v_3)), (((l.Y + v_2) + 300) + v_12)]).length) → (litF [I ((l.X + v_1) - 20), I ((l.Y + v_2) + 300), I (((l.X + v_1) - 20) + (20 + v_3)), I (((l.Y + v_2) + 300) + v_12)] 1) i = (fI ([((l.X + v_1) - 20), ((l.Y + v_2) + 300), (((l.X + v_1) - 20) + (20 + v_3)), (((l.Y + v_2) + 300) + v_12)])) i ∨ (AV.idsL ((fI ([((l.X + v_1) - 20), ((l.Y + v_2) + 300), (((l.X + v_1) - 20) + (20 + v_3)), (((l.Y + v_2) + 300) + v_12)])) i) = [] ∧ leL (fun _ => none) false ((litF [I ((l.X + v_1) - 20), I ((l.Y + v_2) + 300), I (((l.X + v_1) - 20) + (20 + v_3)), I (((l.Y + v_2) + 300) + v_12)] 1) i) ((fI ([((l.X + v_1) - 20), ((l.Y + v_2) + 300), (((l.X + v_1) - 20) + (20 + v_3)), (((l.Y + v_2) + 300) + v_12)])) i))) ∧ True] (by kernel_rfl) ⟨(inR_i64 (by omega) (by omega)), ⟨hc12, rfl, rfl, ⟨.inl rfl, (by simp [taggedO, taggedL, tagged, tagU8])⟩, trivial⟩, (inR_i64 (by omega) (by omega)), ⟨hc13, ⟨(fun h => by cases h), rfl, (by first | rfl | (simp; done) | (simp; omega) | omega), fun i hi => .inl (match i, hi with | 0, _ => rfl | 1, _ => rfl | 2, _ => rfl | 3, _ => rfl | (i + 4), h => absurd h (by simp))⟩, trivial⟩, trivial⟩ ?_
         refine xe_then ?_
         refine x_ret ?_
         refine xe_ret_block (xe_ret_then ?_)
         refine xe_end (v_13, s'_12) (show (okSrc s'_12) ∧ (s'_12.code = s.code) ∧ (s.atx + 0 ≤ s'_12.atx ∧ s'_12.atx ≤ s.atx + 4000) ∧ (True) from ⟨(by first | omega | assumption | rfl | (simp; done) | (simp; omega) | (simp_all; done)), (by first | omega | assumption | rfl | (simp; done) | (simp; omega) | (simp_all; done)), (by first | omega | assumption | rfl | (simp; done) | (simp; omega) | (simp_all; done)), trivial⟩) (⟨.inl rfl, trivial⟩) (.agg [slPoint true v_13.Points]) (by kernel_rfl) (.inl rfl) (fun _ => rfl) (fun _ => (by simp [tagged, taggedL, tagPoint]))
        ·refine x_reg [(0, .dec false)] [0, 4, 5, 6, 7, 35, 107] [4, 7001] [.ref 7001 0, .ref 4 0, I ((l.X + v_1) - 20), I ((l.Y + v_2) + 300), I (20 + v_3), I v_6, Bv false] [some (.box [nilA]), some (bxl00Src s'_6)] [¬ (v_6 = 3)] (by kernel_rfl) ⟨h5, trivial⟩ ?_
         refine xe_then ?_
         refine x_false rfl ?_
         refine x_seq ?_
         by_cases h6 : v_6 = 4
         ·refine x_reg [(0, .dec true)] [0, 4, 5, 6, 120] [4, 7001] [.ref 7001 0, .ref 4 0, I ((l.X + v_1) - 20), I ((l.Y + v_2) + 300), Bv true] [some (.box [nilA]), some (bxl00Src s'_6)] [v_6 = 4] (by kernel_rfl) ⟨h6, trivial⟩ ?_
          refine xe_then ?_
          refine x_true rfl ?_
          refine x_seq ?_
          obtain ⟨v_14, s'_14, hx14_0, hx14_1, hx14_2, hx14_3, hc14⟩ := pick_ok s'_6 6 (by first | assumption | (simp only [okSrc] at *; simp_all; done)) (by omega)
          obtain ⟨v_15, s'_15, hx15_0, hx15_1, hx15_2, hx15_3, hc15⟩ := pick_ok s'_14 6 (by first | assumption | (simp only [okSrc] at *; simp_all; done)) (by omega)
          obtain ⟨v_16, hc16⟩ := l23Path_ok ([((l.X + v_1) - 20), ((l.Y + v_2) + 300), (((l.X + v_1) - 20) + v_14), (((l.Y + v_2) + 300) + v_15)]) (by simp)
          refine x_reg [(4, .lend [(7001, bxl00Src s'_6, bxl00Src s'_14)] [] [(true, .ref 7001 0), (true, I 6)] true (I v_14)), (8, .lend [(7001, bxl00Src s'_14, bxl00Src s'_15)] [] [(true, .ref 7001 0), (true, I 6)] true (I v_15)), (10, .new 132), (11, .call [(false, slI false ([((l.X + v_1) - 20), ((l.Y + v_2) + 300), (((l.X + v_1) - 20) + v_14), (((l.Y + v_2) + 300) + v_15)]))] true (.agg [slPoint true v_16.Points]))] [4] [4, 7001] [.ref 4 0] [some (.box [slPoint true v_16.Points]), some (bxl00Src s'_15)] [CallOK Tryz.prog 39 [.ref 7001 0, I 6] (lookO [(7001, bxl00Src s'_6)]) true (I v_14) (lookO [(7001, bxl00Src s'_14)]) ∧ ((.ref 7001 0 : AV) = .ref 7001 0) ∧ ((I 6 : AV) = I 6) ∧ (((bxl00Src s'_6 : Ob) = bxl00Src s'_6 ∨ obLe noOb true (bxl00Src s'_6) (bxl00Src s'_6)) ∧ taggedO false (bxl00Src s'_6)) ∧ True, inR .i64 (((l.X + v_1) - 20) + v_14), CallOK Tryz.prog 39 [.ref 7001 0, I 6] (lookO [(7001, bxl00Src s'_14)]) true (I v_15) (lookO [(7001, bxl00Src s'_15)]) ∧ ((.ref 7001 0 : AV) = .ref 7001 0) ∧ ((I 6 : AV) = I 6) ∧ (((bxl00Src s'_14 : Ob) = bxl00Src s'_14 ∨ obLe noOb true (bxl00Src s'_14) (bxl00Src s'_14)) ∧ taggedO false (bxl00Src s'_14)) ∧ True, inR .i64 (((l.Y + v_2) + 300) + v_15), Con Tryz.prog 59 [slI false ([((l.X + v_1) - 20), ((l.Y + v_2) + 300), (((l.X + v_1) - 20) + v_14), (((l.Y + v_2) + 300) + v_15)])] true (.agg [slPoint true v_16.Points]) ∧ ((false = true → true = true) ∧ 1 = 1 ∧ 4 = (([((l.X + v_1) - 20), ((l.Y + v_2) + 300), (((l.X + v_1) - 20) + v_14), (((l.Y + v_2) + 300) + v_15)]).length) ∧ ∀ i, i < (([((l.X + v_1) - 20), ((l.Y + v_2) + 300), (((l.X + v_1) - 20) + v_14), (((l.Y + v_2) + 300) + v_15)]).length) → (litF [I ((l.X + v_1) - 20), I ((l.Y + v_2) + 300), I (((l.X + v_1) - 20) + v_14), I (((l.Y + v_2) + 300) + v_15)] 1) i = (fI ([((l.X + v_1) - 20), ((l.Y + v_2) + 300), (((l.X + v_1) - 20) + v_14), (((l.Y + v_2) + 300) + v_15)])) i ∨ (AV.idsL ((fI ([((l.X + v_1) - 20), ((l.Y + v_2) + 300), (((l.X + v_1) - 20) + v_14), (((l.Y + v_2) + 300) + v_15)])) i) = [] ∧ leL (fun _ => none) false ((litF [I ((l.X + v_1) - 20), I ((l.Y + v_2) + 300), I (((l.X + v_1) - 20) + v_14), I (((l.Y + v_2) + 300) + v_15)] 1) i) ((fI ([((l.X + v_1) - 20), ((l.Y + v_2) + 300), (((l.X + v_1) - 20) + v_14), (((l.Y + v_2) + 300) + v_15)])) i))) ∧ True] (by kernel_rfl) ⟨⟨hc14, rfl, rfl, ⟨.inl rfl, (by simp [taggedO, taggedL, tagged, tagU8])⟩, trivial⟩, (inR_i64 (by omega) (by omega)), ⟨hc15, rfl, rfl, ⟨.inl rfl, (by simp [taggedO, taggedL, tagged, tagU8])⟩, trivial⟩, (inR_i64 (by omega) (by omega)), ⟨hc16, ⟨(fun h => by cases h), rfl, (by first | rfl | (simp; done) | (simp; omega) | omega), fun i hi => .inl (match i, hi with | 0, _ => rfl | 1, _ => rfl | 2, _ => rfl | 3, _ => rfl | (i + 4), h => absurd h (by simp))⟩, trivial⟩, trivial⟩ ?_
          refine xe_then ?_
          refine x_ret ?_
          refine xe_ret_block (xe_ret_then ?_)
          refine xe_end (v_16, s'_15) (show (okSrc s'_15) ∧ (s'_15.code = s.code) ∧ (s.atx + 0 ≤ s'_15.atx ∧ s'_15.atx ≤ s.atx + 4000) ∧ (True) from ⟨(by first | omega | assumption | rfl | (simp; done) | (simp; omega) | (simp_all; done)), (by first | omega | assumption | rfl | (simp; done) | (simp; omega) | (simp_all; done)), (by first | omega | assumption | rfl | (simp; done) | (simp; omega) | (simp_all; done)), trivial⟩) (⟨.inl rfl, trivial⟩) (.agg [slPoint true v_16.Points]) (by kernel_rfl) (.inl rfl) (fun _ => rfl) (fun _ => (by simp [tagged, taggedL, tagPoint]))
         ·refine x_reg [(0, .dec false)] [0, 4, 5, 6, 120] [4, 7001] [.ref 7001 0, .ref 4 0, I ((l.X + v_1) - 20), I ((l.Y + v_2) + 300), Bv false] [some (.box [nilA]), some (bxl00Src s'_6)] [¬ (v_6 = 4)] (by kernel_rfl) ⟨h6, trivial⟩ ?_
          refine xe_then ?_
          refine x_false rfl ?_
          refine x_skip ?_
          refine xe_block 0 ?_
          refine xe_then ?_
          refine x_seq ?_
          obtain ⟨v_17, s'_17, hx17_0, hx17_1, hx17_2, hc17⟩ := l05Stroke_ok s'_6 (by first | assumption | (simp only [okSrc] at *; simp_all; done)) (by omega)
          refine x_reg [(1, .lend [(7001, bxl00Src s'_6, bxl00Src s'_17)] [] [(true, .ref 7001 0)] true (.agg [slPoint true v_17.Points]))] [4] [4, 7001] [.ref 4 0] [some (.box [slPoint true v_17.Points]), some (bxl00Src s'_17)] [CallOK Tryz.prog 60 [.ref 7001 0] (lookO [(7001, bxl00Src s'_6)]) true (.agg [slPoint true v_17.Points]) (lookO [(7001, bxl00Src s'_17)]) ∧ ((.ref 7001 0 : AV) = .ref 7001 0) ∧ (((bxl00Src s'_6 : Ob) = bxl00Src s'_6 ∨ obLe noOb true (bxl00Src s'_6) (bxl00Src s'_6)) ∧ taggedO false (bxl00Src s'_6)) ∧ True] (by kernel_rfl) ⟨⟨hc17, rfl, ⟨.inl rfl, (by simp [taggedO, taggedL, tagged, tagU8])⟩, trivial⟩, trivial⟩ ?_
          refine xe_then ?_
          refine x_ret ?_
          refine xe_end (v_17, s'_17) (show (okSrc s'_17) ∧ (s'_17.code = s.code) ∧ (s.atx + 0 ≤ s'_17.atx ∧ s'_17.atx ≤ s.atx + 4000) ∧ (True) from ⟨(by first | omega | assumption | rfl | (simp; done) | (simp; omega) | (simp_all; done)), (by first | omega | assumption | rfl | (simp; done) | (simp; omega) | (simp_all; done)), (by first | omega | assumption | rfl | (simp; done) | (simp; omega) | (simp_all; done)), trivial⟩) (⟨.inl rfl, trivial⟩) (.agg [slPoint true v_17.Points]) (by kernel_rfl) (.inl rfl) (fun _ => rfl) (fun _ => (by simp [tagged, taggedL, tagPoint]))
    ·subst h1
     refine x_reg [(1, .lend [(7001, bxl00Src s'_4, bxl00Src s'_5)] [] [(true, .ref 7001 0), (true, I 10)] true (Bv false))] [0, 4, 5, 6, 7, 8, 31] [4, 7001] [.ref 7001 0, .ref 4 0, I ((l.X + v_1) - 20), I (l.Y + v_2), I (20 + v_3), I (10 + v_4), Bv false] [some (.box [nilA]), some (bxl00Src s'_5)] [CallOK Tryz.prog 41 [.ref 7001 0, I 10] (lookO [(7001, bxl00Src s'_4)]) true (Bv false) (lookO [(7001, bxl00Src s'_5)]) ∧ ((.ref 7001 0 : AV) = .ref 7001 0) ∧ ((I 10 : AV) = I 10) ∧ (((bxl00Src s'_4 : Ob) = bxl00Src s'_4 ∨ obLe noOb true (bxl00Src s'_4) (bxl00Src s'_4)) ∧ taggedO false (bxl00Src s'_4)) ∧ True] (by kernel_rfl) ⟨⟨hc5, rfl, rfl, ⟨.inl rfl, (by simp [taggedO, taggedL, tagged, tagU8])⟩, trivial⟩, trivial⟩ ?_
     refine xe_then ?_
     refine x_false rfl ?_
     refine x_skip ?_
     refine xe_then ?_
     refine x_seq ?_
     refine x_seq ?_
     obtain ⟨v_18, s'_18, hx18_0, hx18_1, hx18_2, hx18_3, hc18⟩ := pick_ok s'_5 7 (by first | assumption | (simp only [okSrc] at *; simp_all; done)) (by omega)
     refine x_reg [(1, .lend [(7001, bxl00Src s'_5, bxl00Src s'_18)] [] [(true, .ref 7001 0), (true, I 7)] true (I v_18))] [0, 4, 5, 6, 7, 8, 35] [4, 7001] [.ref 7001 0, .ref 4 0, I ((l.X + v_1) - 20), I (l.Y + v_2), I (20 + v_3), I (10 + v_4), I v_18] [some (.box [nilA]), some (bxl00Src s'_18)] [CallOK Tryz.prog 39 [.ref 7001 0, I 7] (lookO [(7001, bxl00Src s'_5)]) true (I v_18) (lookO [(7001, bxl00Src s'_18)]) ∧ ((.ref 7001 0 : AV) = .ref 7001 0) ∧ ((I 7 : AV) = I 7) ∧ (((bxl00Src s'_5 : Ob) = bxl00Src s'_5 ∨ obLe noOb true (bxl00Src s'_5) (bxl00Src s'_5)) ∧ taggedO false (bxl00Src s'_5)) ∧ True] (by kernel_rfl) ⟨⟨hc18, rfl, rfl, ⟨.inl rfl, (by simp [taggedO, taggedL, tagged, tagU8])⟩, trivial⟩, trivial⟩ ?_
     refine xe_then ?_
     refine x_block ?_
     refine x_seq ?_
     by_cases h7 : v_18 = 0
     ·refine x_reg [(0, .dec true)] [0, 4, 5, 6, 7, 8, 35, 36] [4, 7001] [.ref 7001 0, .ref 4 0, I ((l.X + v_1) - 20), I (l.Y + v_2), I (20 + v_3), I (10 + v_4), I v_18, Bv true] [some (.box [nilA]), some (bxl00Src s'_18)] [v_18 = 0] (by kernel_rfl) ⟨h7, trivial⟩ ?_
      refine xe_then ?_
      refine x_true rfl ?_
      refine x_seq ?_
      obtain ⟨v_19, hc19⟩ := l23Path_ok ([((l.X + v_1) - 20), (l.Y + v_2), (((l.X + v_1) - 20) + (20 + v_3)), ((l.Y + v_2) + 3), (((l.X + v_1) - 20) + 5), ((l.Y + v_2) + 6), ((((l.X + v_1) - 20) + (20 + v_3)) - 3), ((l.Y + v_2) + 9), ((l.X + v_1) - 20), ((l.Y + v_2) + 12)]) (by simp)
      refine x_reg [(20, .new 58), (21, .call [(false, slI false ([((l.X + v_1) - 20), (l.Y + v_2), (((l.X + v_1) - 20) + (20 + v_3)), ((l.Y + v_2) + 3), (((l.X + v_1) - 20) + 5), ((l.Y + v_2) + 6), ((((l.X + v_1) - 20) + (20 + v_3)) - 3), ((l.Y + v_2) + 9), ((l.X + v_1) - 20), ((l.Y + v_2) + 12)]))] true (.agg [slPoint true v_19.Points]))] [4] [4, 7001] [.ref 4 0] [some (.box [slPoint true v_19.Points]), some (bxl00Src s'_18)] [inR .i64 (((l.X + v_1) - 20) + (20 + v_3)), inR .i64 ((l.Y + v_2) + 3), inR .i64 (((l.X + v_1) - 20) + 5), inR .i64 ((l.Y + v_2) + 6), inR .i64 (((l.X + v_1) - 20) + (20 + v_3)), inR .i64 ((((l.X + v_1) - 20) + (20 + v_3)) - 3), inR .i64 ((l.Y + v_2) + 9), inR .i64 ((l.Y + v_2) + 12), Con Tryz.prog 59 [slI false ([((l.X + v_1) - 20), (l.Y + v_2), (((l.X + v_1) - 20) + (20 + v_3)), ((l.Y + v_2) + 3), (((l.X + v_1) - 20) + 5), ((l.Y + v_2) + 6), ((((l.X + v_1) - 20) + (20 + v_3)) - 3), ((l.Y + v_2) + 9), ((l.X + v_1) - 20), ((l.Y + v_2) + 12)])] true (.agg [slPoint true v_19.Points]) ∧ ((false = true → true = true) ∧ 1 = 1 ∧ 10 = (([((l.X + v_1) - 20), (l.Y + v_2), (((l.X + v_1) - 20) + (20 + v_3)), ((l.Y + v_2) + 3), (((l.X + v_1) - 20) + 5), ((l.Y + v_2) + 6), ((((l.X + v_1) - 20) + (20 + v_3)) - 3), ((l.Y + v_2) + 9), ((l.X + v_1) - 20), ((l.Y + v_2) + 12)]).length) ∧ ∀ i, i < (([((l.X + v_1) - 20), (l.Y + v_2), (((l.X + v_1) - 20) + (20 + v_3)), ((l.Y + v_2) + 3), (((l.X + v_1) - 20) + 5), ((l.Y + v_2) + 6), ((((l.X + v_1) - 20) + (20 + v_3)) - 3), ((l.Y + v_2) + 9), ((l.X + v_1) - 20), ((l.Y + v_2) + 12)]).length) → (litF [I ((l.X + v_1) - 20), I (l.Y + v_2), I (((l.X + v_1) - 20) + (20 + v_3)), I ((l.Y + v_2) + 3), I (((l.X + v_1) - 20) + 5), I ((l.Y + v_2) + 6), I ((((l.X + v_1) - 20) + (20 + v_3)) - 3), I ((l.Y + v_2) + 9), I ((l.X + v_1) - 20), I ((l.Y + v_2) + 12)] 1) i = (fI ([((l.X + v_1) - 20), (l.Y + v_2), (((l.X + v_1) - 20) + (20 + v_3)), ((l.Y + v_2) + 3), (((l.X + v_1) - 20) + 5), ((l.Y + v_2) + 6), ((((l.X + v_1) - 20) + (20 + v_3)) - 3), ((l.Y + v_2) + 9), ((l.X + v_1) - 20), ((l.Y + v_2) + 12)])) i ∨ (AV.idsL ((fI ([((l.X + v_1) - 20), (l.Y + v_2), (((l.X + v_1) - 20) + (20 + v_3)), ((l.Y + v_2) + 3), (((l.X + v_1) - 20) + 5), ((l.Y + v_2) + 6), ((((l.X + v_1) - 20) + (20 + v_3)) - 3), ((l.Y + v_2) + 9), ((l.X + v_1) - 20), ((l.Y + v_2) + 12)])) i) = [] ∧ leL (fun _ => none) false ((litF [I ((l.X + v_1) - 20), I (l.Y + v_2), I (((l.X + v_1) - 20) + (20 + v_3)), I ((l.Y + v_2) + 3), I (((l.X + v_1) - 20) + 5), I ((l.Y + v_2) + 6), I ((((l.X + v_1) - 20) + (20 + v_3)) - 3), I ((l.Y + v_2) + 9), I ((l.X + v_1) - 20), I ((l.Y + v_2) + 12)] 1) i) ((fI ([((l.X + v_1) - 20), (l.Y + v_2), (((l.X + v_1) - 20) + (20 + v_3)), ((l.Y + v_2) + 3), (((l.X + v_1) - 20) + 5), ((l.Y + v_2) + 6), ((((l.X + v_1) - 20) + (20 + v_3)) - 3), ((l.Y + v_2) + 9), ((l.X + v_1) - 20), ((l.Y + v_2) + 12)])) i))) ∧ True] (by kernel_rfl) ⟨(inR_i64 (by omega) (by omega)), (inR_i64 (by omega) (by omega)), (inR_i64 (by omega) (by omega)), (inR_i64 (by omega) (by omega)), (inR_i64 (by omega) (by omega)), (inR_i64 (by omega) (by omega)), (inR_i64 (by omega) (by omega)), (inR_i64 (by omega) (by omega)), ⟨hc19, ⟨(fun h => by cases h), rfl, (by first | rfl | (simp; done) | (simp; omega) | omega), fun i hi => .inl (match i, hi with | 0, _ => rfl | 1, _ => rfl | 2, _ => rfl | 3, _ => rfl | 4, _ => rfl | 5, _ => rfl | 6, _ => rfl | 7, _ => rfl | 8, _ => rfl | 9, _ => rfl | (i + 10), h => absurd h (by simp))⟩, trivial⟩, trivial⟩ ?_
      refine xe_then ?_
      refine x_ret ?_
      refine xe_ret_block (xe_ret_then ?_)
      refine xe_end (v_19, s'_18) (show (okSrc s'_18) ∧ (s'_18.code = s.code) ∧ (s.atx + 0 ≤ s'_18.atx ∧ s'_18.atx ≤ s.atx + 4000) ∧ (True) from ⟨(by first | omega | assumption | rfl | (simp; done) | (simp; omega) | (simp_all; done)), (by first | omega | assumption | rfl | (simp; done) | (simp; omega) | (simp_all; done)), (by first | omega | assumption | rfl | (simp; done) | (simp; omega) | (simp_all; done)), trivial⟩) (⟨.inl rfl, trivial⟩) (.agg [slPoint true v_19.Points]) (by kernel_rfl) (.inl rfl) (fun _ => rfl) (fun _ => (by simp [tagged, taggedL, tagPoint]))
     ·refine x_reg [(0, .dec false)] [0, 4, 5, 6, 7, 8, 35, 36] [4, 7001] [.ref 7001 0, .ref 4 0, I ((l.X + v_1) - 20), I (l.Y + v_2), I (20 + v_3), I (10 + v_4), I v_18, Bv false] [some (.box [nilA]), some (bxl00Src s'_18)] [¬ (v_18 = 0)] (by kernel_rfl) ⟨h7, trivial⟩ ?_
      refine xe_then ?_
      refine x_false rfl ?_
      refine x_seq ?_
      by_cases h8 : v_18 = 1
      ·refine x_reg [(0, .dec true)] [0, 4, 5, 6, 7, 8, 35, 60] [4, 7001] [.ref 7001 0, .ref 4 0, I ((l.X + v_1) - 20), I (l.Y + v_2), I (20 + v_3), I (10 + v_4), I v_18, Bv true] [some (.box [nilA]), some (bxl00Src s'_18)] [v_18 = 1] (by kernel_rfl) ⟨h8, trivial⟩ ?_
       refine xe_then ?_
       refine x_true rfl ?_
       refine x_seq ?_
       obtain ⟨v_20, s'_20, hx20_0, hx20_1, hx20_2, hx20_3, hc20⟩ := pick_ok s'_18 6 (by first | assumption | (simp only [okSrc] at *; simp_all; done)) (by omega)
       obtain ⟨v_21, hc21⟩ := l23Path_ok ([((l.X + v_1) - 20), (l.Y + v_2), (((l.X + v_1) - 20) + (20 + v_3)), (l.Y + v_2), (((l.X + v_1) - 20) + (20 + v_3)), ((l.Y + v_2) + (10 + v_4)), ((l.X + v_1) - 20), ((l.Y + v_2) + (10 + v_4)), ((l.X + v_1) - 20), ((l.Y + v_2) + v_20)]) (by simp)
       refine x_reg [(19, .lend [(7001, bxl00Src s'_18, bxl00Src s'_20)] [] [(true, .ref 7001 0), (true, I 6)] true (I v_20)), (21, .new 83), (22, .call [(false, slI false ([((l.X + v_1) - 20), (l.Y + v_2), (((l.X + v_1) - 20) + (20 + v_3)), (l.Y + v_2), (((l.X + v_1) - 20) + (20 + v_3)), ((l.Y + v_2) + (10 + v_4)), ((l.X + v_1) - 20), ((l.Y + v_2) + (10 + v_4)), ((l.X + v_1) - 20), ((l.Y + v_2) + v_20)]))] true (.agg [slPoint true v_21.Points]))] [4] [4, 7001] [.ref 4 0] [some (.box [slPoint true v_21.Points]), some (bxl00Src s'_20)] [inR .i64 (((l.X + v_1) - 20) + (20 + v_3)), inR .i64 (((l.X + v_1) - 20) + (20 + v_3)), inR .i64 ((l.Y + v_2) + (10 + v_4)), inR .i64 ((l.Y + v_2) + (10 + v_4)), CallOK Tryz.prog 39 [.ref 7001 0, I 6] (lookO [(7001, bxl00Src s'_18)]) true (I v_20) (lookO [(7001, bxl00Src s'_20)]) ∧ ((.ref 7001 0 : AV) = .ref 7001 0) ∧ ((I 6 : AV) = I 6) ∧ (((bxl00Src s'_18 : Ob) = bxl00Src s'_18 ∨ obLe noOb true (bxl00Src s'_18) (bxl00Src s'_18)) ∧ taggedO false (bxl00Src s'_18)) ∧ True, inR .i64 ((l.Y + v_2) + v_20), Con Tryz.prog 59 [slI false ([((l.X + v_1) - 20), (l.Y + v_2), (((l.X + v_1) - 20) + (20 + v_3)), (l.Y + v_2), (((l.X + v_1) - 20) + (20 + v_3)), ((l.Y + v_2) + (10 + v_4)), ((l.X + v_1) - 20), ((l.Y + v_2) + (10 + v_4)), ((l.X + v_1) - 20), ((l.Y + v_2) + v_20)])] true (.agg [slPoint true v_21.Points]) ∧ ((false = true → true = true) ∧ 1 = 1 ∧ 10 = (([((l.X + v_1) - 20), (l.Y + v_2), (((l.X + v_1) - 20) + (20 + v_3)), (l.Y + v_2), (((l.X + v_1) - 20) + (20 + v_3)), ((l.Y + v_2) + (10 + v_4)), ((l.X + v_1) - 20), ((l.Y + v_2) + (10 + v_4)), ((l.X + v_1) - 20), ((l.Y + v_2) + v_20)]).length) ∧ ∀ i, i < (([((l.X + v_1) - 20), (l.Y + v_2), (((l.X + v_1) - 20) + (20 + v_3)), (l.Y + v_2), (((l.X + v_1) - 20) + (20 + v_3)), ((l.Y + v_2) + (10 + v_4)), ((l.X + v_1) - 20), ((l.Y + v_2) + (10 + v_4)), ((l.X + v_1) - 20), ((l.Y + v_2) + v_20)]).length) → (litF [I ((l.X + v_1) - 20), I (l.Y + v_2), I (((l.X + v_1) - 20) + (20 + v_3)), I (l.Y + v_2), I (((l.X + v_1) - 20) + (20 + v_3)), I ((l.Y + v_2) + (10 + v_4)), I ((l.X + v_1) - 20), I ((l.Y + v_2) + (10 + v_4)), I ((l.X + v_1) - 20), I ((l.Y + v_2) + v_20)] 1) i = (fI ([((l.X + v_1) - 20), (l.Y + v_2), (((l.X + v_1) - 20) + (20 + v_3)), (l.Y + v_2), (((l.X + v_1) - 20) + (20 + v_3)), ((l.Y + v_2) + (10 + v_4)), ((l.X + v_1) - 20), ((l.Y + v_2) + (10 + v_4)), ((l.X + v_1) - 20), ((l.Y + v_2) + v_20)])) i ∨ (AV.idsL ((fI ([((l.X + v_1) - 20), (l.Y + v_2), (((l.X + v_1) - 20) + (20 + v_3)), (l.Y + v_2), (((l.X + v_1) - 20) + (20 + v_3)), ((l.Y + v_2) + (10 + v_4)), ((l.X + v_1) - 20), ((l.Y + v_2) + (10 + v_4)), ((l.X + v_1) - 20), ((l.Y + v_2) + v_20)])) i) = [] ∧ leL (fun _ => none) false ((litF [I ((l.X + v_1) - 20), I (l.Y + v_2), I (((l.X + v_1) - 20) + (20 + v_3)), I (l.Y + v_2), I (((l.X + v_1) - 20) + (20 + v_3)), I ((l.Y + v_2) + (10 + v_4)), I ((l.X + v_1) - 20), I ((l.Y + v_2) + (10 + v_4)), I ((l.X + v_1) - 20), I ((l.Y + v_2) + v_20)] 1) i) ((fI ([((l.X + v_1) - 20), (l.Y + v_2), (((l.X + v_1) - 20) + (20 + v_3)), (l.Y + v_2), (((l.X + v_1) - 20) + (20 + v_3)), ((l.Y + v_2) + (10 + v_4)), ((l.X + v_1) - 20), ((l.Y + v_2) + (10 + v_4)), ((l.X + v_1) - 20), ((l.Y + v_2) + v_20)])) i))) ∧ True] (by kernel_rfl) ⟨(inR_i64 (by omega) (by omega)), (inR_i64 (by omega) (by omega)), (inR_i64 (by omega) (by omega)), (inR_i64 (by omega) (by omega)), ⟨hc20, rfl, rfl, ⟨.inl rfl, (by simp [taggedO, taggedL, tagged, tagU8])⟩, trivial⟩, (inR_i64 (by omega) (by omega)), ⟨hc21, ⟨(fun h => by cases h), rfl, (by first | rfl | (simp; done) | (simp; omega) | omega), fun i hi => .inl (match i, hi with | 0, _ => rfl | 1, _ => rfl | 2, _ => rfl | 3, _ => rfl | 4, _ => rfl | 5, _ => rfl | 6, _ => rfl | 7, _ => rfl | 8, _ => rfl | 9, _ => rfl | (i + 10), h => absurd h (by simp))⟩, trivial⟩, trivial⟩ ?_
       refine xe_then ?_
       refine x_ret ?_
       refine xe_ret_block (xe_ret_then ?_)
       refine xe_end (v_21, s'_20) (show (okSrc s'_20) ∧ (s'_20.code = s.code) ∧ (s.atx + 0 ≤ s'_20.atx ∧ s'_20.atx ≤ s.atx + 4000) ∧ (True) from ⟨(by first | omega | assumption | rfl | (simp; done) | (simp; omega) | (simp_all; done)), (by first | omega | assumption | rfl | (simp; done) | (simp; omega) | (simp_all; done)), (by first | omega | assumption | rfl | (simp; done) | (simp; omega) | (simp_all; done)), trivial⟩) (⟨.inl rfl, trivial⟩) (.agg [slPoint true v_21.Points]) (by kernel_rfl) (.inl rfl) (fun _ => rfl) (fun _ => (by simp [tagged, taggedL, tagPoint]))
      ·refine x_reg [(0, .dec false)] [0, 4, 5, 6, 7, 8, 35, 60] [4, 7001] [.ref 7001 0, .ref 4 0, I ((l.X + v_1) - 20), I (l.Y + v_2), I (20 + v_3), I (10 + v_4), I v_18, Bv false] [some (.box [nilA]), some (bxl00Src s'_18)] [¬ (v_18 = 1)] (by kernel_rfl) ⟨h8, trivial⟩ ?_
       refine xe_then ?_
       refine x_false rfl ?_
       refine x_seq ?_
       by_cases h9 : v_18 = 2
       ·refine x_reg [(0, .dec true)] [0, 4, 5, 6, 7, 8, 35, 85] [4, 7001] [.ref 7001 0, .ref 4 0, I ((l.X + v_1) - 20), I (l.Y + v_2), I (20 + v_3), I (10 + v_4), I v_18, Bv true] [some (.box [nilA]), some (bxl00Src s'_18)] [v_18 = 2] (by kernel_rfl) ⟨h9, trivial⟩ ?_
        refine xe_then ?_
        refine x_true rfl ?_
        refine x_seq ?_
        obtain ⟨v_22, s'_22, hx22_0, hx22_1, hx22_2, hx22_3, hc22⟩ := pick_ok s'_18 4 (by first | assumption | (simp only [okSrc] at *; simp_all; done)) (by omega)
        obtain ⟨v_23, hc23⟩ := l23Path_ok ([((l.X + v_1) - 20), ((l.Y + v_2) + (10 + v_4)), (((l.X + v_1) - 20) + ((20 + v_3) / 2)), (l.Y + v_2), (((l.X + v_1) - 20) + (20 + v_3)), (((l.Y + v_2) + (10 + v_4)) - v_22)]) (by simp)
        refine x_reg [(6, .nn), (16, .lend [(7001, bxl00Src s'_18, bxl00Src s'_22)] [] [(true, .ref 7001 0), (true, I 4)] true (I v_22)), (18, .new 105), (19, .call [(false, slI false ([((l.X + v_1) - 20), ((l.Y + v_2) + (10 + v_4)), (((l.X + v_1) - 20) + ((20 + v_3) / 2)), (l.Y + v_2), (((l.X + v_1) - 20) + (20 + v_3)), (((l.Y + v_2) + (10 + v_4)) - v_22)]))] true (.agg [slPoint true v_23.Points]))] [4] [4, 7001] [.ref 4 0] [some (.box [slPoint true v_23.Points]), some (bxl00Src s'_22)] [inR .i64 ((l.Y + v_2) + (10 + v_4)), (0 : Int) ≤ (20 + v_3) ∧ (0 : Int) < 2 ∧ inR .i64 (20 + v_3), inR .i64 (((l.X + v_1) - 20) + ((20 + v_3) / 2)), inR .i64 (((l.X + v_1) - 20) + (20 + v_3)), inR .i64 ((l.Y + v_2) + (10 + v_4)), CallOK Tryz.prog 39 [.ref 7001 0, I 4] (lookO [(7001, bxl00Src s'_18)]) true (I v_22) (lookO [(7001, bxl00Src s'_22)]) ∧ ((.ref 7001 0 : AV) = .ref 7001 0) ∧ ((I 4 : AV) = I 4) ∧ (((bxl00Src s'_18 : Ob) = bxl00Src s'_18 ∨ obLe noOb true (bxl00Src s'_18) (bxl00Src s'_18)) ∧ taggedO false (bxl00Src s'_18)) ∧ True, inR .i64 (((l.Y + v_2) + (10 + v_4)) - v_22), Con Tryz.prog 59 [slI false ([((l.X + v_1) - 20), ((l.Y + v_2) + (10 + v_4)), (((l.X + v_1) - 20) + ((20 + v_3) / 2)), (l.Y + v_2), (((l.X + v_1) - 20) + (20 + v_3)), (((l.Y + v_2) + (10 + v_4)) - v_22)])] true (.agg [slPoint true v_23.Points]) ∧ ((false = true → true = true) ∧ 1 = 1 ∧ 6 = (([((l.X + v_1) - 20), ((l.Y + v_2) + (10 + v_4)), (((l.X + v_1) - 20) + ((20 + v_3) / 2)), (l.Y + v_2), (((l.X + v_1) - 20) + (20 + v_3)), (((l.Y + v_2) + (10 + v_4)) - v_22)]).length) ∧ ∀ i, i < (([((l.X + v_1) - 20), ((l.Y + v_2) + (10 + v_4)), (((l.X + v_1) - 20) + ((20 + v_3) / 2)), (l.Y + v_2), (((l.X + v_1) - 20) + (20 + v_3)), (((l.Y + v_2) + (10 + v_4)) - v_22)]).length) → (litF [I ((l.X + v_1) - 20), I ((l.Y + v_2) + (10 + v_4)), I (((l.X + v_1) - 20) + ((20 + v_3) / 2)), I (l.Y + v_2), I (((l.X + v_1) - 20) + (20 + v_3)), I (((l.Y + v_2) + (10 + v_4)) - v_22)] 1) i = (fI ([((l.X + v_1) - 20), ((l.Y + v_2) + (10 + v_4)), (((l.X + v_1) - 20) + ((20 + v_3) / 2)), (l.Y + v_2), (((l.X + v_1) - 20) + (20 + v_3)), (((l.Y + v_2) + (10 + v_4)) - v_22)])) i ∨ (AV.idsL ((fI ([((l.X + v_1) - 20), ((l.Y + v_2) + (10 + v_4)), (((l.X + v_1) - 20) + ((20 + v_3) / 2)), (l.Y + v_2), (((l.X + v_1) - 20) + (20 + v_3)), (((l.Y + v_2) + (10 + v_4)) - v_22)])) i) = [] ∧ leL (fun _ => none) false ((litF [I ((l.X + v_1) - 20), I ((l.Y + v_2) + (10 + v_4)), I (((l.X + v_1) - 20) + ((20 + v_3) / 2)), I (l.Y + v_2), I (((l.X + v_1) - 20) + (20 + v_3)), I (((l.Y + v_2) + (10 + v_4)) - v_22)] 1) i) ((fI ([((l.X + v_1) - 20), ((l.Y + v_2) + (10 + v_4)), (((l.X + v_1) - 20) + ((20 + v_3) / 2)), (l.Y + v_2), (((l.X + v_1) - 20) + (20 + v_3)), (((l.Y + v_2) + (10 + v_4)) - v_22)])) i))) ∧ True] (by kernel_rfl) ⟨(inR_i64 (by omega) (by omega)), ⟨(by omega), (by omega), (inR_i64 (by omega) (by omega))⟩, (inR_i64 (by omega) (by omega)), (inR_i64 (by omega) (by omega)), (inR_i64 (by omega) (by omega)), ⟨hc22, rfl, rfl, ⟨.inl rfl, (by simp [taggedO, taggedL, tagged, tagU8])⟩, trivial⟩, (inR_i64 (by omega) (by omega)), ⟨hc23, ⟨(fun h => by cases h), rfl, (by first | rfl | (simp; done) | (simp; omega) | omega), fun i hi => .inl (match i, hi with | 0, _ => rfl | 1, _ => rfl | 2, _ => rfl | 3, _ => rfl | 4, _ => rfl | 5, _ => rfl | (i + 6), h => absurd h (by simp))⟩, trivial⟩, trivial⟩ ?_
        refine xe_then ?_
        refine x_ret ?_
        refine xe_ret_block (xe_ret_then ?_)
        refine xe_end (v_23, s'_22) (show (okSrc s'_22) ∧ (s'_22.code = s.code) ∧ (s.atx + 0 ≤ s'_22.atx ∧ s'_22.atx ≤ s.atx + 4000) ∧ (True) from ⟨(by first | omega | assumption | rfl | (simp; done) | (simp; omega) | (simp_all; done)), (by first | omega | assumption | rfl | (simp; done) | (simp; omega) | (simp_all; done)), (by first | omega | assumption | rfl | (simp; done) | (simp; omega) | (simp_all; done)), trivial⟩) (⟨.inl rfl, trivial⟩) (.agg [slPoint true v_23.Points]) (by kernel_rfl) (.inl rfl) (fun _ => rfl) (fun _ => (by simp [tagged, taggedL, tagPoint]))
       ·refine x_reg [(0, .dec false)] [0, 4, 5, 6, 7, 8, 35, 85] [4, 7001] [.ref 7001 0, .ref 4 0, I ((l.X + v_1) - 20), I (l.Y + v_2), I (20 + v_3), I (10 + v_4), I v_18, Bv false] [some (.box [nilA]), some (bxl00Src s'_18)] [¬ (v_18 = 2)] (by kernel_rfl) ⟨h9, trivial⟩ ?_
        refine xe_then ?_
        refine x_false rfl ?_
        refine x_seq ?_
        by_cases h10 : v_18 = 3
        ·refine x_reg [(0, .dec true)] [0, 4, 5, 6, 7, 35, 107] [4, 7001] [.ref 7001 0, .ref 4 0, I ((l.X + v_1) - 20), I (l.Y + v_2), I (20 + v_3), I v_18, Bv true] [some (.box [nilA]), some (bxl00Src s'_18)] [v_18 = 3] (by kernel_rfl) ⟨h10, trivial⟩ ?_
         refine xe_then ?_
         refine x_true rfl ?_
         refine x_seq ?_
         obtain ⟨v_24, s'_24, hx24_0, hx24_1, hx24_2, hx24_3, hc24⟩ := pick_ok s'_18 9 (by first | assumption | (simp only [okSrc] at *; simp_all; done)) (by omega)
         obtain ⟨v_25, hc25⟩ := l23Path_ok ([((l.X + v_1) - 20), (l.Y + v_2), (((l.X + v_1) - 20) + (20 + v_3)), ((l.Y + v_2) + v_24)]) (by simp)
         refine x_reg [(7, .lend [(7001, bxl00Src s'_18, bxl00Src s'_24)] [] [(true, .ref 7001 0), (true, I 9)] true (I v_24)), (9, .new 118), (10, .call [(false, slI false ([((l.X + v_1) - 20), (l.Y + v_2), (((l.X + v_1) - 20) + (20 + v_3)), ((l.Y + v_2) + v_24)]))] true (.agg [slPoint true v_25.Points]))] [4] [4, 7001] [.ref 4 0] [some (.box [slPoint true v_25.Points]), some (bxl00Src s'_24)] [inR .i64 (((l.X + v_1) - 20) + (20 + v_3)), CallOK Tryz.prog 39 [.ref 7001 0, I 9] (lookO [(7001, bxl00Src s'_18)]) true (I v_24) (lookO [(7001, bxl00Src s'_24)]) ∧ ((.ref 7001 0 : AV) = .ref 7001 0) ∧ ((I 9 : AV) = I 9) ∧ (((bxl00Src s'_18 : Ob) = bxl00Src s'_18 ∨ obLe noOb true (bxl00Src s'_18) (bxl00Src s'_18)) ∧ taggedO false (bxl00Src s'_18)) ∧ True, inR .i64 ((l.Y + v_2) + v_24), Con Tryz.prog 59 [slI false ([((l.X + v_1) - 20), (l.Y + v_2), (((l.X + v_1) - 20) + (20 + v_3)), ((l.Y + v_2) + v_24)])] true (.agg [slPoint true v_25.Points]) ∧ ((false = true → true = true) ∧ 1 = 1 ∧ 4 = (([((l.X + v_1) - 20), (l.Y + v_2), (((l.X + v_1) - 20) + (20 + v_3)), ((l.Y + v_2) + v_24)]).length) ∧ ∀ i, i < (([((l.X + v_1) - 20), (l.Y + v_2), (((l.X + v_1) - 20) + (20 + v_3)), ((l.Y + v_2) + v_24)]).length) → (litF [I ((l.X + v_1) - 20), I (l.Y + v_2), I (((l.X + v_1) - 20) + (20 + v_3)), I ((l.Y + v_2) + v_24)] 1) i = (fI ([((l.X + v_1) - 20), (l.Y + v_2), (((l.X + v_1) - 20) + (20 + v_3)), ((l.Y + v_2) + v_24)])) i ∨ (AV.idsL ((fI ([((l.X + v_1) - 20), (l.Y + v_2), (((l.X + v_1) - 20) + (20 + v_3)), ((l.Y + v_2) + v_24)])) i) = [] ∧ leL (fun _ => none) false ((litF [I ((l.X + v_1) - 20), I (l.Y + v_2), I (((l.X + v_1) - 20) + (20 + v_3)), I ((l.Y + v_2) + v_24)] 1) i) ((fI ([((l.X + v_1) - 20), (l.Y + v_2), (((l.X + v_1) - 20) + (20 + v_3)), ((l.Y + v_2) + v_24)])) i))) ∧ True] (by kernel_rfl) ⟨(inR_i64 (by omega) (by omega)), ⟨hc24, rfl, rfl, ⟨.inl rfl, (by simp [taggedO, taggedL, tagged, tagU8])⟩, trivial⟩, (inR_i64 (by omega) (by omega)), ⟨hc25, ⟨(fun h => by cases h), rfl, (by first | rfl | (simp; done) | (simp; omega) | omega), fun i hi => .inl (match i, hi with | 0, _ => rfl | 1, _ => rfl | 2, _ => rfl | 3, _ => rfl | (i + 4), h => absurd h (by simp))⟩, trivial⟩, trivial⟩ ?_
         refine xe_then ?_
         refine x_ret ?_
         refine xe_ret_block (xe_ret_then ?_)
         refine xe_end (v_25, s'_24) (show (okSrc s'_24) ∧ (s'_24.code = s.code) ∧ (s.atx + 0 ≤ s'_24.atx ∧ s'_24.atx ≤ s.atx + 4000) ∧ (True) from ⟨(by first | omega | assumption | rfl | (simp; done) | (simp; omega) | (simp_all; done)), (by first | omega | assumption | rfl | (simp; done) | (simp; omega) | (simp_all; done)), (by first | omega | assumption | rfl | (simp; done) | (simp; omega) | (simp_all; done)), trivial⟩) (⟨.inl rfl, trivial⟩) (.agg [slPoint true v_25.Points]) (by kernel_rfl) (.inl rfl) (fun _ => rfl) (fun _ => (by simp [tagged, taggedL, tagPoint]))
        ·refine x_reg [(0, .dec false)] [0, 4, 5, 6, 7, 35, 107] [4, 7001] [.ref 7001 0, .ref 4 0, I ((l.X + v_1) - 20), I (l.Y + v_2), I (20 + v_3), I v_18, Bv false] [some (.box [nilA]), some (bxl00Src s'_18)] [¬ (v_18 = 3)] (by kernel_rfl) ⟨h10, trivial⟩ ?_
         refine xe_then ?_
         refine x_false rfl ?_
         refine x_seq ?_
         by_cases h11 : v_18 = 4
         ·refine x_reg [(0, .dec true)] [0, 4, 5, 6, 120] [4, 7001] [.ref 7001 0, .ref 4 0, I ((l.X + v_1) - 20), I (l.Y + v_2), Bv true] [some (.box [nilA]), some (bxl00Src s'_18)] [v_18 = 4] (by kernel_rfl) ⟨h11, trivial⟩ ?_
          refine xe_then ?_
          refine x_true rfl ?_
          refine x_seq ?_
          obtain ⟨v_26, s'_26, hx26_0, hx26_1, hx26_2, hx26_3, hc26⟩ := pick_ok s'_18 6 (by first | assumption | (simp only [okSrc] at *; simp_all; done)) (by omega)
          obtain ⟨v_27, s'_27, hx27_0, hx27_1, hx27_2, hx27_3, hc27⟩ := pick_ok s'_26 6 (by first | assumption | (simp only [okSrc] at *; simp_all; done)) (by omega)
          obtain ⟨v_28, hc28⟩ := l23Path_ok ([((l.X + v_1) - 20), (l.Y + v_2), (((l.X + v_1) - 20) + v_26), ((l.Y + v_2) + v_27)]) (by simp)
          refine x_reg [(4, .lend [(7001, bxl00Src s'_18, bxl00Src s'_26)] [] [(true, .ref 7001 0), (true, I 6)] true (I v_26)), (8, .lend [(7001, bxl00Src s'_26, bxl00Src s'_27)] [] [(true, .ref 7001 0), (true, I 6)] true (I v_27)), (10, .new 132), (11, .call [(false, slI false ([((l.X + v_1) - 20), (l.Y + v_2), (((l.X + v_1) - 20) + v_26), ((l.Y + v_2) + v_27)]))] true (.agg [slPoint true v_28.Points]))] [4] [4, 7001] [.ref 4 0] [some (.box [slPoint true v_28.Points]), some (bxl00Src s'_27)] [CallOK Tryz.prog 39 [.ref 7001 0, I 6] (lookO [(7001, bxl00Src s'_18)]) true (I v_26) (lookO [(7001, bxl00Src s'_26)]) ∧ ((.ref 7001 0 : AV) = .ref 7001 0) ∧ ((I 6 : AV) = I 6) ∧ (((bxl00Src s'_18 : Ob) = bxl00Src s'_18 ∨ obLe noOb true (bxl00Src s'_18) (bxl00Src s'_18)) ∧ taggedO false (bxl00Src s'_18)) ∧ True, inR .i64 (((l.X + v_1) - 20) + v_26), CallOK Tryz.prog 39 [.ref 7001 0, I 6] (lookO [(7001, bxl00Src s'_26)]) true (I v_27) (lookO [(7001, bxl00Src s'_27)]) ∧ ((.ref 7001 0 : AV) = .ref 7001 0) ∧ ((I 6 : AV) = I 6) ∧ (((bxl00Src s'_26 : Ob) = bxl00Src s'_26 ∨ obLe noOb true (bxl00Src s'_26) (bxl00Src s'_26)) ∧ taggedO false (bxl00Src s'_26)) ∧ True, inR .i64 ((l.Y + v_2) + v_27), Con Tryz.prog 59 [slI false ([((l.X + v_1) - 20), (l.Y + v_2), (((l.X + v_1) - 20) + v_26), ((l.Y + v_2) + v_27)])] true (.agg [slPoint true v_28.Points]) ∧ ((false = true → true = true) ∧ 1 = 1 ∧ 4 = (([((l.X + v_1) - 20), (l.Y + v_2), (((l.X + v_1) - 20) + v_26), ((l.Y + v_2) + v_27)]).length) ∧ ∀ i, i < (([((l.X + v_1) - 20), (l.Y + v_2), (((l.X + v_1) - 20) + v_26), ((l.Y + v_2) + v_27)]).length) → (litF [I ((l.X + v_1) - 20), I (l.Y + v_2), I (((l.X + v_1) - 20) + v_26), I ((l.Y + v_2) + v_27)] 1) i = (fI ([((l.X + v_1) - 20), (l.Y + v_2), (((l.X + v_1) - 20) + v_26), ((l.Y + v_2) + v_27)])) i ∨ (AV.idsL ((fI ([((l.X + v_1) - 20), (l.Y + v_2), (((l.X + v_1) - 20) + v_26), ((l.Y + v_2) + v_27)])) i) = [] ∧ leL (fun _ => none) false ((litF [I ((l.X + v_1) - 20), I (l.Y + v_2), I (((l.X + v_1) - 20) + v_26), I ((l.Y + v_2) + v_27)] 1) i) ((fI ([((l.X + v_1) - 20), (l.Y + v_2), (((l.X + v_1) - 20) + v_26), ((l.Y + v_2) + v_27)])) i))) ∧ True] (by kernel_rfl) ⟨⟨hc26, rfl, rfl, ⟨.inl rfl, (by simp [taggedO, taggedL, tagged, tagU8])⟩, trivial⟩, (inR_i64 (by omega) (by omega)), ⟨hc27, rfl, rfl, ⟨.inl rfl, (by simp [taggedO, taggedL, tagged, tagU8])⟩, trivial⟩, (inR_i64 (by omega) (by omega)), ⟨hc28, ⟨(fun h => by cases h), rfl, (by first | rfl | (simp; done) | (simp; omega) | omega), fun i hi => .inl (match i, hi with | 0, _ => rfl | 1, _ => rfl | 2, _ => rfl | 3, _ => rfl | (i + 4), h => absurd h (by simp))⟩, trivial⟩, trivial⟩ ?_
          refine xe_then ?_
          refine x_ret ?_
          refine xe_ret_block (xe_ret_then ?_)
          refine xe_end (v_28, s'_27) (show (okSrc s'_27) ∧ (s'_27.code = s.code) ∧ (s.atx + 0 ≤ s'_27.atx ∧ s'_27.atx ≤ s.atx + 4000) ∧ (True) from ⟨(by first | omega | assumption | rfl | (simp; done) | (simp; omega) | (simp_all; done)), (by first | omega | assumption | rfl | (simp; done) | (simp; omega) | (simp_all; done)), (by first | omega | assumption | rfl | (simp; done) | (simp; omega) | (simp_all; done)), trivial⟩) (⟨.inl rfl, trivial⟩) (.agg [slPoint true v_28.Points]) (by kernel_rfl) (.inl rfl) (fun _ => rfl) (fun _ => (by simp [tagged, taggedL, tagPoint]))
         ·refine x_reg [(0, .dec false)] [0, 4, 5, 6, 120] [4, 7001] [.ref 7001 0, .ref 4 0, I ((l.X + v_1) - 20), I (l.Y + v_2), Bv false] [some (.box [nilA]), some (bxl00Src s'_18)] [¬ (v_18 = 4)] (by kernel_rfl) ⟨h11, trivial⟩ ?_
          refine xe_then ?_
          refine x_false rfl ?_
          refine x_skip ?_
          refine xe_block 0 ?_
          refine xe_then ?_
          refine x_seq ?_
          obtain ⟨v_29, s'_29, hx29_0, hx29_1, hx29_2, hc29⟩ := l05Stroke_ok s'_18 (by first | assumption | (simp only [okSrc] at *; simp_all; done)) (by omega)
          refine x_reg [(1, .lend [(7001, bxl00Src s'_18, bxl00Src s'_29)] [] [(true, .ref 7001 0)] true (.agg [slPoint true v_29.Points]))] [4] [4, 7001] [.ref 4 0] [some (.box [slPoint true v_29.Points]), some (bxl00Src s'_29)] [CallOK Tryz.prog 60 [.ref 7001 0] (lookO [(7001, bxl00Src s'_18)]) true (.agg [slPoint true v_29.Points]) (lookO [(7001, bxl00Src s'_29)]) ∧ ((.ref 7001 0 : AV) = .ref 7001 0) ∧ (((bxl00Src s'_18 : Ob) = bxl00Src s'_18 ∨ obLe noOb true (bxl00Src s'_18) (bxl00Src s'_18)) ∧ taggedO false (bxl00Src s'_18)) ∧ True] (by kernel_rfl) ⟨⟨hc29, rfl, ⟨.inl rfl, (by simp [taggedO, taggedL, tagged, tagU8])⟩, trivial⟩, trivial⟩ ?_
          refine xe_then ?_
          refine x_ret ?_
          refine xe_end (v_29, s'_29) (show (okSrc s'_29) ∧ (s'_29.code = s.code) ∧ (s.atx + 0 ≤ s'_29.atx ∧ s'_29.atx ≤ s.atx + 4000) ∧ (True) from ⟨(by first | omega | assumption | rfl | (simp; done) | (simp; omega) | (simp_all; done)), (by first | omega | assumption | rfl | (simp; done) | (simp; omega) | (simp_all; done)), (by first | omega | assumption | rfl | (simp; done) | (simp; omega) | (simp_all; done)), trivial⟩) (⟨.inl rfl, trivial⟩) (.agg [slPoint true v_29.Points]) (by kernel_rfl) (.inl rfl) (fun _ => rfl) (fun _ => (by simp [tagged, taggedL, tagPoint]))
  obtain ⟨⟨v, s'⟩, ⟨hh0, hh1, hh2, _⟩, hc⟩ := hh
  exact ⟨v, s', hh0, hh1, hh2, hc⟩


-- spec.DrawEditOf
theorem DrawEditOf_ok (code : List Int) (hc : (∀ j, j < code.length → 0 ≤ at_ code j ∧ at_ code j ≤ 255) ∧ code.length ≤ 4611686018427387904) : ∃ (l : CellRow) (v : Stroke), (l.Text.size ≤ 300) ∧ Con Tryz.prog 27 [slU8 false code] true (.tup [agCellRow l, .agg [slPoint true v.Points]]) := by
  have hh : ∃ r : CellRow × Stroke, ((r.1.Text.size ≤ 300) ∧ (True)) ∧ CallOK Tryz.prog 27 [slU8 false code] (lookO []) true (.tup [agCellRow r.1, .agg [slPoint true r.2.Points]]) (lookO []) := by
    refine fn_okX (Φ := fun r : CellRow × Stroke => (r.1.Text.size ≤ 300) ∧ (True)) [] (fun r => []) (fn := Tryz.f27) (nt := 13) Tryz.func27 rfl rfl (args := [slU8 false code]) rfl (allcons (.inl ⟨rfl, tagU8 false _⟩) allnil) (res := fun r => .tup [agCellRow r.1, .agg [slPoint true r.2.Points]]) ?_
    refine x_seq ?_
    refine x_reg [(0, .new 2), (1, .new 3)] [0, 2, 3] [2, 3] [slU8 false code, .ref 2 0, .ref 3 0] [some (.box [Sv (⟨#[]⟩ : ByteArray), I 0, I 0, I 0]), some (.box [nilA])] [] (by kernel_rfl) trivial ?_
    refine xe_then ?_
    refine x_seq ?_
    obtain ⟨s'_1, hx1_0, hc1⟩ := l00From_ok code
    have hsrc : okSrc s'_1 := ⟨by rw [hx1_0.1]; exact hc.1, by rw [hx1_0.2]; decide, by rw [hx1_0.1]; exact hc.2⟩
    have hat0 := hx1_0.2
    refine x_reg [(1, .lend [] [(7001, bxl00Src s'_1)] [(true, slU8 false code)] false (.ref 7001 0))] [2, 3, 4] [2, 3, 7001] [.ref 2 0, .ref 3 0, .ref 7001 0] [some (.box [Sv (⟨#[]⟩ : ByteArray), I 0, I 0, I 0]), some (.box [nilA]), some (bxl00Src s'_1)] [CallOK Tryz.prog 30 [slU8 false code] (lookO []) false (.ref 7001 0) (lookO [(7001, bxl00Src s'_1)]) ∧ ((slU8 false code : AV) = slU8 false code) ∧ True] (by kernel_rfl) ⟨⟨hc1, rfl, trivial⟩, trivial⟩ ?_
    refine xe_then ?_
    refine x_seq ?_
    obtain ⟨l_2, s'_2, hx2_0, hx2_1, hx2_2, hx2_3, hx2_4, hx2_5, hx2_6, hc2⟩ := l23Bent_ok s'_1 (by first | assumption | (simp only [okSrc] at *; simp_all; done)) (by omega)
    refine x_reg [(1, .lend [(7001, bxl00Src s'_1, bxl00Src s'_2)] [] [(true, .ref 7001 0)] true (agCellRow l_2)), (2, .new 5)] [2, 3, 4, 5] [2, 3, 5, 7001] [.ref 2 0, .ref 3 0, .ref 7001 0, .ref 5 0] [some (.box [Sv (⟨#[]⟩ : ByteArray), I 0, I 0, I 0]), some (.box [nilA]), some (bxCellRow l_2), some (bxl00Src s'_2)] [CallOK Tryz.prog 40 [.ref 7001 0] (lookO [(7001, bxl00Src s'_1)]) true (agCellRow l_2) (lookO [(7001, bxl00Src s'_2)]) ∧ ((.ref 7001 0 : AV) = .ref 7001 0) ∧ (((bxl00Src s'_1 : Ob) = bxl00Src s'_1 ∨ obLe noOb true (bxl00Src s'_1) (bxl00Src s'_1)) ∧ taggedO false (bxl00Src s'_1)) ∧ True] (by kernel_rfl) ⟨⟨hc2, rfl, ⟨.inl rfl, (by simp [taggedO, taggedL, tagged, tagU8])⟩, trivial⟩, trivial⟩ ?_
    refine xe_then ?_
    refine x_seq ?_
    refine x_weak [] (T := [(2, .ref 2 0), (3, .ref 3 0), (4, .ref 7001 0), (5, .ptr true [Sv l_2.Text, I l_2.X, I l_2.Y, I l_2.Cell])]) (O := [(2, .box [Sv (⟨#[]⟩ : ByteArray), I 0, I 0, I 0]), (3, .box [nilA]), (7001, bxl00Src s'_2)]) rfl (⟨.inl rfl, .inl rfl, .inl rfl, .inr ⟨(fun _ => rfl), rfl, ⟨rfl, ⟨rfl, ⟨rfl, ⟨rfl, rfl⟩⟩⟩⟩⟩, trivial⟩) (⟨.inl rfl, .inl rfl, .inl rfl, trivial⟩) ?_
    obtain ⟨v_3, s'_3, hx3_0, hx3_1, hx3_2, hc3⟩ := l23Stroke_ok s'_2 l_2 (by first | assumption | (simp only [okSrc] at *; simp_all; done)) (by omega) (by first | assumption | omega)
    refine x_reg [(2, .lend [(7001, bxl00Src s'_2, bxl00Src s'_3)] [] [(true, .ref 7001 0), (false, .ptr false [Sv l_2.Text, I l_2.X, I l_2.Y, I l_2.Cell])] true (.agg [slPoint true v_3.Points]))] [2, 3] [2, 3] [.ref 2 0, .ref 3 0] [some (bxCellRow l_2), some (.box [slPoint true v_3.Points])] [CallOK Tryz.prog 32 [.ref 7001 0, .ptr false [Sv l_2.Text, I l_2.X, I l_2.Y, I l_2.Cell]] (lookO [(7001, bxl00Src s'_2)]) true (.agg [slPoint true v_3.Points]) (lookO [(7001, bxl00Src s'_3)]) ∧ ((.ref 7001 0 : AV) = .ref 7001 0) ∧ ((false = true → true = true) ∧ AV.idsL [Sv l_2.Text, I l_2.X, I l_2.Y, I l_2.Cell] = [] ∧ (valOf (Sv l_2.Text) = valOf (Sv l_2.Text)) ∧ (valOf (I l_2.X) = valOf (I l_2.X)) ∧ (valOf (I l_2.Y) = valOf (I l_2.Y)) ∧ (valOf (I l_2.Cell) = valOf (I l_2.Cell)) ∧ ([] : List AV) = []) ∧ (((bxl00Src s'_2 : Ob) = bxl00Src s'_2 ∨ obLe noOb true (bxl00Src s'_2) (bxl00Src s'_2)) ∧ taggedO false (bxl00Src s'_2)) ∧ True] (by kernel_rfl) ⟨⟨hc3, rfl, ⟨(fun h => by cases h), rfl, ⟨rfl, ⟨rfl, ⟨rfl, ⟨rfl, rfl⟩⟩⟩⟩⟩, ⟨.inl rfl, (by simp [taggedO, taggedL, tagged, tagU8])⟩, trivial⟩, trivial⟩ ?_
    refine xe_then ?_
    refine x_ret ?_
    refine xe_end (l_2, v_3) (show (l_2.Text.size ≤ 300) ∧ (True) from ⟨(by first | omega | assumption | rfl | (simp; done) | (simp; omega) | (simp_all; done)), trivial⟩) (trivial) (.tup [agCellRow l_2, .agg [slPoint true v_3.Points]]) (by kernel_rfl) (.inl rfl) (fun _ => rfl) (fun _ => (by simp [tagged, taggedL, tagPoint]))
  obtain ⟨⟨l, v⟩, ⟨hh0, _⟩, hc⟩ := hh
  exact ⟨l, v, hh0, hc⟩


-- impl.validPoint
theorem validPoint_ok (p : Point) : Con Tryz.prog 61 [agPoint p] true (Bv (okP p)) := by
  refine fn_ok (fn := Tryz.f61) (nt := 16) Tryz.func61 rfl rfl rfl rfl (by simp [taggedL, tagged]) fun B hB => ?_
  refine aw_seq ?_
  refine aw_reg [(0, .new 1)] [1] [1] [.ref 1 0] [some (bxPoint p)] [] (by kernel_rfl) hB trivial ?_
  refine ae_then ?_
  refine aw_seq ?_
  rcases Bool.eq_false_or_eq_true (inB p.X 0 4095) with h1 | h1
  ·rcases Bool.eq_false_or_eq_true (inB p.Y 0 4095) with h2 | h2
   ·refine aw_reg [(2, .call [(true, I p.X)] true (Bv true)), (6, .call [(true, I p.Y)] true (Bv true)), (11, .call [(true, I p.T), (true, I 0), (true, I 3600000)] true (Bv (inB p.T 0 3600000)))] [2] [] [Bv (inB p.T 0 3600000)] [] [Con Tryz.prog 43 [I p.X] true (Bv true) ∧ ((I p.X : AV) = I p.X) ∧ True, Con Tryz.prog 43 [I p.Y] true (Bv true) ∧ ((I p.Y : AV) = I p.Y) ∧ True, Con Tryz.prog 44 [I p.T, I 0, I 3600000] true (Bv (inB p.T 0 3600000)) ∧ ((I p.T : AV) = I p.T) ∧ ((I 0 : AV) = I 0) ∧ ((I 3600000 : AV) = I 3600000) ∧ True] (by kernel_rfl) hB ⟨⟨(con_bool h1 (isCoord_ok p.X)), rfl, trivial⟩, ⟨(con_bool h2 (isCoord_ok p.Y)), rfl, trivial⟩, ⟨(within_ok p.T 0 3600000), rfl, rfl, rfl, trivial⟩, trivial⟩ ?_
    refine ae_then ?_
    refine aw_ret ?_
    refine ae_ret hB (Bv (inB p.T 0 3600000)) (by kernel_rfl) (.inl (by first | rfl | (refine congrArg Bv ?_; simp [okP, *]; done) | (refine congrArg Bv ?_; simp [okP, *]; omega) | (refine congrArg Bv ?_; simp_all [okP]; done) | (refine congrArg Bv ?_; simp_all [okP]; omega))) rfl (fun _ => trivial)
   ·refine aw_reg [(2, .call [(true, I p.X)] true (Bv true)), (6, .call [(true, I p.Y)] true (Bv false))] [2] [] [Bv false] [] [Con Tryz.prog 43 [I p.X] true (Bv true) ∧ ((I p.X : AV) = I p.X) ∧ True, Con Tryz.prog 43 [I p.Y] true (Bv false) ∧ ((I p.Y : AV) = I p.Y) ∧ True] (by kernel_rfl) hB ⟨⟨(con_bool h1 (isCoord_ok p.X)), rfl, trivial⟩, ⟨(con_bool h2 (isCoord_ok p.Y)), rfl, trivial⟩, trivial⟩ ?_
    refine ae_then ?_
    refine aw_ret ?_
    refine ae_ret hB (Bv false) (by kernel_rfl) (.inl (by first | rfl | (refine congrArg Bv ?_; simp [okP, *]; done) | (refine congrArg Bv ?_; simp [okP, *]; omega) | (refine congrArg Bv ?_; simp_all [okP]; done) | (refine congrArg Bv ?_; simp_all [okP]; omega))) rfl (fun _ => trivial)
  ·refine aw_reg [(2, .call [(true, I p.X)] true (Bv false))] [2] [] [Bv false] [] [Con Tryz.prog 43 [I p.X] true (Bv false) ∧ ((I p.X : AV) = I p.X) ∧ True] (by kernel_rfl) hB ⟨⟨(con_bool h1 (isCoord_ok p.X)), rfl, trivial⟩, trivial⟩ ?_
   refine ae_then ?_
   refine aw_ret ?_
   refine ae_ret hB (Bv false) (by kernel_rfl) (.inl (by first | rfl | (refine congrArg Bv ?_; simp [okP, *]; done) | (refine congrArg Bv ?_; simp [okP, *]; omega) | (refine congrArg Bv ?_; simp_all [okP]; done) | (refine congrArg Bv ?_; simp_all [okP]; omega))) rfl (fun _ => trivial)


-- impl.ValidStroke
theorem ValidStroke_ok (s : Stroke) : Con Tryz.prog 33 [.agg [slPoint false s.Points]] true (Bv (okStroke' s)) := by
  refine fn_ok (fn := Tryz.f33) (nt := 43) Tryz.func33 rfl rfl rfl rfl (by simp [taggedL, tagged, tagPoint]) fun B hB => ?_
  refine aw_lens (x := .agg [slPoint false s.Points]) 0 rfl (fun len_s => ?_)
  simp [LenOK, LenL, cPoint, fPoint, slPoint] at len_s
  refine aw_seq ?_
  refine aw_reg [(0, .new 1)] [1] [1] [.ref 1 0] [some (.box [slPoint false s.Points])] [] (by kernel_rfl) hB trivial ?_
  refine ae_then ?_
  refine aw_seq ?_
  refine aw_seq ?_
  refine aw_reg [] [1, 6, 7, 8] [1] [.ref 1 0, slPoint false s.Points, I (s.Points.length : Int), I 0] [some (.box [slPoint false s.Points])] [] (by kernel_rfl) hB trivial ?_
  refine ae_then ?_
  refine aw_block ?_
  refine aw_loop (fun gn gσ => ∃ (t8 : Int), gn = ((s.Points.length : Int) - t8).toNat ∧ (0 ≤ t8 ∧ t8 ≤ (s.Points.length : Int)) ∧ (∀ j : Nat, (j : Int) < t8 → okPt s.Points j = true) ∧ gσ = mkS [(1, .ref 1 0), (6, slPoint false s.Points), (7, I (s.Points.length : Int)), (8, I t8)] [(1, .box [slPoint false s.Points])]) (((s.Points.length : Int) - 0).toNat) ⟨0, rfl, (by omega), (by intro j hj; omega), rfl⟩ (fun gn gσ hI => ?_)
  obtain ⟨t8, rfl, hi0, hall0, rfl⟩ := hI
  refine aw_seq ?_
  by_cases h1 : t8 < (s.Points.length : Int)
  ·have hi : t8.toNat < s.Points.length := by omega
   refine aw_reg [(0, .dec true)] [1, 6, 7, 8, 9] [1] [.ref 1 0, slPoint false s.Points, I (s.Points.length : Int), I t8, Bv true] [some (.box [slPoint false s.Points])] [t8 < (s.Points.length : Int)] (by kernel_rfl) hB ⟨h1, trivial⟩ ?_
   refine ae_then ?_
   refine aw_seq ?_
   refine aw_true rfl ?_
   refine aw_skip ?_
   refine ae_then ?_
   refine aw_seq ?_
   refine aw_block ?_
   refine aw_seq ?_
   refine aw_reg [(3, .new 4)] [1, 3, 4, 6, 7, 8] [1, 4] [.ref 1 0, I t8, .ref 4 0, slPoint false s.Points, I (s.Points.length : Int), I t8] [some (.box [slPoint false s.Points]), some (bxPoint (at_ s.Points t8.toNat))] [(0 : Int) ≤ t8 ∧ t8 < (s.Points.length : Int)] (by kernel_rfl) hB ⟨⟨(by omega), (by omega)⟩, trivial⟩ ?_
   refine ae_then ?_
   refine aw_seq ?_
   rcases Bool.eq_false_or_eq_true (okP (at_ s.Points t8.toNat)) with h2 | h2
   ·by_cases h3 : 0 < t8
    ·by_cases h4 : ((at_ s.Points t8.toNat).T) ≤ ((at_ s.Points ((t8 - 1).toNat)).T)
     ·have hall : allN s.Points.length (okPt s.Points) = false := allN_not hi (okPt_no h3 h4)
      refine aw_reg [(1, .call [(true, agPoint (at_ s.Points t8.toNat))] true (Bv true)), (5, .dec true), (16, .dec true)] [1, 6, 7, 8, 31] [1] [.ref 1 0, slPoint false s.Points, I (s.Points.length : Int), I t8, Bv true] [some (.box [slPoint false s.Points])] [Con Tryz.prog 61 [agPoint (at_ s.Points t8.toNat)] true (Bv true) ∧ ((agPoint (at_ s.Points t8.toNat) : AV) = agPoint (at_ s.Points t8.toNat)) ∧ True, 0 < t8, inR .i64 (t8 - 1), (0 : Int) ≤ (t8 - 1) ∧ (t8 - 1) < (s.Points.length : Int), ((at_ s.Points t8.toNat).T) ≤ ((at_ s.Points ((t8 - 1).toNat)).T)] (by kernel_rfl) hB ⟨⟨(con_bool h2 (validPoint_ok (at_ s.Points t8.toNat))), rfl, trivial⟩, h3, (inR_i64 (by omega) (by omega)), ⟨(by omega), (by omega)⟩, h4, trivial⟩ ?_
      refine ae_then ?_
      refine aw_true rfl ?_
      refine aw_seq ?_
      refine aw_reg [] [2] [] [Bv false] [] [] (by kernel_rfl) hB trivial ?_
      refine ae_then ?_
      refine aw_ret ?_
      refine ae_ret_block (ae_ret_then (ae_ret_then (ae_ret_block (ae_ret_then ?_))))
      refine ae_ret hB (Bv false) (by kernel_rfl) (.inl (by first | rfl | (refine congrArg Bv ?_; simp [okStroke', inB, *]; done) | (refine congrArg Bv ?_; simp [okStroke', inB, *]; omega) | (refine congrArg Bv ?_; simp_all [okStroke', inB]; done) | (refine congrArg Bv ?_; simp_all [okStroke', inB]; omega))) rfl (fun _ => trivial)
     ·have hok := okPt_yes h2 h3 h4
      refine aw_reg [(1, .call [(true, agPoint (at_ s.Points t8.toNat))] true (Bv true)), (5, .dec true), (16, .dec false)] [1, 6, 7, 8, 31] [1] [.ref 1 0, slPoint false s.Points, I (s.Points.length : Int), I t8, Bv false] [some (.box [slPoint false s.Points])] [Con Tryz.prog 61 [agPoint (at_ s.Points t8.toNat)] true (Bv true) ∧ ((agPoint (at_ s.Points t8.toNat) : AV) = agPoint (at_ s.Points t8.toNat)) ∧ True, 0 < t8, inR .i64 (t8 - 1), (0 : Int) ≤ (t8 - 1) ∧ (t8 - 1) < (s.Points.length : Int), ¬ (((at_ s.Points t8.toNat).T) ≤ ((at_ s.Points ((t8 - 1).toNat)).T))] (by kernel_rfl) hB ⟨⟨(con_bool h2 (validPoint_ok (at_ s.Points t8.toNat))), rfl, trivial⟩, h3, (inR_i64 (by omega) (by omega)), ⟨(by omega), (by omega)⟩, h4, trivial⟩ ?_
      refine ae_then ?_
      refine aw_false rfl ?_
      refine aw_skip ?_
      refine ae_block 1 ?_
      refine ae_then ?_
      refine aw_reg [] [1, 6, 7, 8] [1] [.ref 1 0, slPoint false s.Points, I (s.Points.length : Int), I (t8 + 1)] [some (.box [slPoint false s.Points])] [inR .i64 (t8 + 1)] (by kernel_rfl) hB ⟨(inR_i64 (by omega) (by omega)), trivial⟩ ?_
      exact ae_again _ (by omega) ⟨(t8 + 1), rfl, (by omega), (by intro j hj; by_cases ej : j = t8.toNat; (subst ej; first | assumption | exact hok); exact hall0 j (by omega)), rfl⟩
    ·have hok := okPt_zero h2 hi0.1 h3
     refine aw_reg [(1, .call [(true, agPoint (at_ s.Points t8.toNat))] true (Bv true)), (5, .dec false)] [1, 6, 7, 8, 31] [1] [.ref 1 0, slPoint false s.Points, I (s.Points.length : Int), I t8, Bv false] [some (.box [slPoint false s.Points])] [Con Tryz.prog 61 [agPoint (at_ s.Points t8.toNat)] true (Bv true) ∧ ((agPoint (at_ s.Points t8.toNat) : AV) = agPoint (at_ s.Points t8.toNat)) ∧ True, ¬ (0 < t8)] (by kernel_rfl) hB ⟨⟨(con_bool h2 (validPoint_ok (at_ s.Points t8.toNat))), rfl, trivial⟩, h3, trivial⟩ ?_
     refine ae_then ?_
     refine aw_false rfl ?_
     refine aw_skip ?_
     refine ae_block 1 ?_
     refine ae_then ?_
     refine aw_reg [] [1, 6, 7, 8] [1] [.ref 1 0, slPoint false s.Points, I (s.Points.length : Int), I (t8 + 1)] [some (.box [slPoint false s.Points])] [inR .i64 (t8 + 1)] (by kernel_rfl) hB ⟨(inR_i64 (by omega) (by omega)), trivial⟩ ?_
     exact ae_again _ (by omega) ⟨(t8 + 1), rfl, (by omega), (by intro j hj; by_cases ej : j = t8.toNat; (subst ej; first | assumption | exact hok); exact hall0 j (by omega)), rfl⟩
   ·have hall : allN s.Points.length (okPt s.Points) = false := allN_not hi (okPt_bad h2)
    refine aw_reg [(1, .call [(true, agPoint (at_ s.Points t8.toNat))] true (Bv false))] [1, 6, 7, 8, 31] [1] [.ref 1 0, slPoint false s.Points, I (s.Points.length : Int), I t8, Bv true] [some (.box [slPoint false s.Points])] [Con Tryz.prog 61 [agPoint (at_ s.Points t8.toNat)] true (Bv false) ∧ ((agPoint (at_ s.Points t8.toNat) : AV) = agPoint (at_ s.Points t8.toNat)) ∧ True] (by kernel_rfl) hB ⟨⟨(con_bool h2 (validPoint_ok (at_ s.Points t8.toNat))), rfl, trivial⟩, trivial⟩ ?_
    refine ae_then ?_
    refine aw_true rfl ?_
    refine aw_seq ?_
    refine aw_reg [] [2] [] [Bv false] [] [] (by kernel_rfl) hB trivial ?_
    refine ae_then ?_
    refine aw_ret ?_
    refine ae_ret_block (ae_ret_then (ae_ret_then (ae_ret_block (ae_ret_then ?_))))
    refine ae_ret hB (Bv false) (by kernel_rfl) (.inl (by first | rfl | (refine congrArg Bv ?_; simp [okStroke', inB, *]; done) | (refine congrArg Bv ?_; simp [okStroke', inB, *]; omega) | (refine congrArg Bv ?_; simp_all [okStroke', inB]; done) | (refine congrArg Bv ?_; simp_all [okStroke', inB]; omega))) rfl (fun _ => trivial)
  ·have hall : allN s.Points.length (okPt s.Points) = true := allN_at (fun j hj => hall0 j (by omega))
   refine aw_reg [(0, .dec false)] [1, 6, 7, 8, 9] [1] [.ref 1 0, slPoint false s.Points, I (s.Points.length : Int), I t8, Bv false] [some (.box [slPoint false s.Points])] [¬ (t8 < (s.Points.length : Int))] (by kernel_rfl) hB ⟨h1, trivial⟩ ?_
   refine ae_then ?_
   refine aw_seq ?_
   refine aw_false rfl ?_
   refine aw_exit ?_
   refine ae_exit_then ?_
   refine ae_exit_then ?_
   refine ae_exit_same ?_
   refine ae_then ?_
   refine aw_seq ?_
   by_cases h5 : 1 ≤ (s.Points.length : Int)
   ·refine aw_reg [(3, .dec true)] [2] [] [Bv (decide ((s.Points.length : Int) ≤ 60))] [] [1 ≤ (s.Points.length : Int)] (by kernel_rfl) hB ⟨h5, trivial⟩ ?_
    refine ae_then ?_
    refine aw_ret ?_
    refine ae_ret hB (Bv (decide ((s.Points.length : Int) ≤ 60))) (by kernel_rfl) (.inl (by first | rfl | (refine congrArg Bv ?_; simp [okStroke', inB, *]; done) | (refine congrArg Bv ?_; simp [okStroke', inB, *]; omega) | (refine congrArg Bv ?_; simp_all [okStroke', inB]; done) | (refine congrArg Bv ?_; simp_all [okStroke', inB]; omega))) rfl (fun _ => trivial)
   ·refine aw_reg [(3, .dec false)] [2] [] [Bv false] [] [¬ (1 ≤ (s.Points.length : Int))] (by kernel_rfl) hB ⟨h5, trivial⟩ ?_
    refine ae_then ?_
    refine aw_ret ?_
    refine ae_ret hB (Bv false) (by kernel_rfl) (.inl (by first | rfl | (refine congrArg Bv ?_; simp [okStroke', inB, *]; done) | (refine congrArg Bv ?_; simp [okStroke', inB, *]; omega) | (refine congrArg Bv ?_; simp_all [okStroke', inB]; done) | (refine congrArg Bv ?_; simp_all [okStroke', inB]; omega))) rfl (fun _ => trivial)


theorem bitLen_spec (x : Nat) (h : x < 2 ^ 64) : x < 2 ^ Lib.bitLen x ∧ ∀ k, x < 2 ^ k → Lib.bitLen x ≤ k := by
  induction x using Nat.strongRecOn with
  | _ x ih =>
    by_cases h0 : x = 0
    · subst h0
      have : Lib.bitLen 0 = 0 := by decide
      rw [this]
      exact ⟨by decide, fun k _ => Nat.zero_le _⟩
    · have e := Lib.bitLen_half x h0 h
      obtain ⟨h1, h2⟩ := ih (x / 2) (by omega) (by omega)
      rw [e]
      refine ⟨by rw [Nat.pow_add]; omega, fun k hk => ?_⟩
      cases k with
      | zero => simp at hk; omega
      | succ k =>
        have := h2 k (by rw [Nat.pow_succ] at hk; omega)
        omega
theorem sq_le {a b : Int} (h0 : 0 ≤ a) (h : a ≤ b) : a * a ≤ b * b := Int.mul_le_mul h h h0 (by omega)
theorem sq_lt {a b : Int} (h0 : 0 ≤ b) (h : a * a < b * b) : a < b := by
  by_cases h' : a < b
  · exact h'
  · have := sq_le h0 (Int.not_lt.1 h'); omega
def rootN : Nat → Nat
  | 0 => 0
  | n + 1 => if (rootN n + 1) * (rootN n + 1) ≤ n + 1 then rootN n + 1 else rootN n
theorem rootN_spec (n : Nat) : rootN n * rootN n ≤ n ∧ n < (rootN n + 1) * (rootN n + 1) := by
  induction n with
  | zero => simp [rootN]
  | succ n ih =>
    unfold rootN
    split
    · rename_i h
      refine ⟨h, ?_⟩
      have : (rootN n + 1 + 1) * (rootN n + 1 + 1) = (rootN n + 1) * (rootN n + 1) + 2 * (rootN n + 1) + 1 := by
        generalize rootN n + 1 = a
        rw [Nat.add_mul, Nat.mul_add]; omega
      omega
    · omega
/-- The greatest number whose square is at most n. -/
def rootI (n : Int) : Int := (rootN n.toNat : Int)
theorem rootI_spec {n : Int} (h : 0 ≤ n) : 0 ≤ rootI n ∧ rootI n * rootI n ≤ n ∧ n < (rootI n + 1) * (rootI n + 1) := by
  have := rootN_spec n.toNat
  unfold rootI
  refine ⟨by omega, ?_, ?_⟩
  · have h1 : ((rootN n.toNat * rootN n.toNat : Nat) : Int) ≤ (n.toNat : Int) := Int.ofNat_le.2 this.1
    rw [Int.natCast_mul] at h1; omega
  · have h1 : ((n.toNat : Nat) : Int) < (((rootN n.toNat + 1) * (rootN n.toNat + 1) : Nat) : Int) := Int.ofNat_lt.2 this.2
    rw [Int.natCast_mul] at h1
    have e : ((rootN n.toNat + 1 : Nat) : Int) = (rootN n.toNat : Int) + 1 := by omega
    rw [e] at h1; omega
theorem rootI_eq {n r : Int} (h0 : 0 ≤ r) (h1 : r * r ≤ n) (h2 : n < (r + 1) * (r + 1)) : rootI n = r := by
  have hn : 0 ≤ n := Int.le_trans (Int.mul_nonneg h0 h0) h1
  obtain ⟨a, b, c⟩ := rootI_spec hn
  have e1 : rootI n < r + 1 := sq_lt (by omega) (by omega)
  have e2 : r < rootI n + 1 := sq_lt (by omega) (by omega)
  omega
theorem rootI_bd {n B : Int} (h : 0 ≤ n) (hB : 0 ≤ B) (h2 : n < (B + 1) * (B + 1)) : 0 ≤ rootI n ∧ rootI n ≤ B := by
  obtain ⟨a, b, c⟩ := rootI_spec h
  have : rootI n < B + 1 := sq_lt (by omega) (by omega)
  omega
/-- A step of the way down. -/
theorem newton {n r : Int} (hr : 0 < r) : n < ((r + n / r) / 2 + 1) * ((r + n / r) / 2 + 1) := by
  obtain ⟨m, hm⟩ : ∃ m, m = n / r := ⟨_, rfl⟩
  have h1 : n < r * (m + 1) := by
    have := Int.lt_mul_ediv_self_add (x := n) hr
    rw [← hm] at this; rw [Int.mul_add]; omega
  rw [← hm]
  obtain ⟨q, hq⟩ : ∃ q, q = (r + m) / 2 := ⟨_, rfl⟩
  rw [← hq]
  have h2 : r + m + 1 ≤ 2 * (q + 1) := by omega
  by_cases h0 : n < 0
  · have : 0 ≤ (q + 1) * (q + 1) := by
      rcases Int.le_total 0 (q + 1) with h | h
      · exact Int.mul_nonneg h h
      · exact Int.mul_nonneg_of_nonpos_of_nonpos h h
    omega
  have h0 := Int.not_lt.1 h0
  have hm0 : 0 ≤ m := by rw [hm]; exact Int.ediv_nonneg h0 (by omega)
  have h3 := sq_le (show 0 ≤ r + m + 1 by omega) h2
  have h4 : (2 * (q + 1)) * (2 * (q + 1)) = 4 * ((q + 1) * (q + 1)) := by
    generalize q + 1 = a
    rw [show (2 * a) * (2 * a) = (2 * 2) * (a * a) by rw [Int.mul_assoc, Int.mul_left_comm a 2 a, ← Int.mul_assoc]]; omega
  have h5 : 4 * (r * (m + 1)) ≤ (r + m + 1) * (r + m + 1) := by
    have h6 : 0 ≤ (r - (m + 1)) * (r - (m + 1)) := by
      rcases Int.le_total 0 (r - (m + 1)) with h | h
      · exact Int.mul_nonneg h h
      · exact Int.mul_nonneg_of_nonpos_of_nonpos h h
    have e : r + m + 1 = r + (m + 1) := by omega
    rw [e]
    generalize m + 1 = k at h6 ⊢
    have e1 : (r - k) * (r - k) = r * r - 2 * (r * k) + k * k := by rw [Int.sub_mul, Int.mul_sub, Int.mul_sub, Int.mul_comm k r]; omega
    have e2 : (r + k) * (r + k) = r * r + 2 * (r * k) + k * k := by rw [Int.add_mul, Int.mul_add, Int.mul_add, Int.mul_comm k r]; omega
    omega
  omega
theorem newton_end {n r : Int} (hr : 0 < r) (h : ¬ (r + n / r) / 2 < r) : r * r ≤ n := by
  have h1 : r ≤ n / r := by omega
  have h2 := Int.mul_ediv_self_le (x := n) (k := r) (by omega)
  exact Int.le_trans (Int.mul_le_mul_of_nonneg_left h1 (by omega)) h2

theorem root0 {n : Int} (h0 : 0 ≤ n) (h1 : n ≤ 1000000000000000) : (Lib.bitLen n.toNat ≤ 50) ∧ (1 ≤ 1 * ((2 ^ ((((Lib.bitLen n.toNat : Nat) : Int) + 1) / 2).toNat : Nat) : Int) ∧ 1 * ((2 ^ ((((Lib.bitLen n.toNat : Nat) : Int) + 1) / 2).toNat : Nat) : Int) ≤ 33554432) ∧
    n < (1 * ((2 ^ ((((Lib.bitLen n.toNat : Nat) : Int) + 1) / 2).toNat : Nat) : Int) + 1) * (1 * ((2 ^ ((((Lib.bitLen n.toNat : Nat) : Int) + 1) / 2).toNat : Nat) : Int) + 1) := by
  obtain ⟨a, b⟩ := bitLen_spec n.toNat (by omega)
  have hL := b 50 (by omega)
  generalize Lib.bitLen n.toNat = L at *
  have e : (((L : Int) + 1) / 2).toNat = (L + 1) / 2 := by omega
  rw [e]
  have hk : (L + 1) / 2 ≤ 25 := by omega
  have h3 : 2 ^ ((L + 1) / 2) ≤ 2 ^ 25 := Nat.pow_le_pow_right (by decide) hk
  have h4 : 1 ≤ 2 ^ ((L + 1) / 2) := Nat.one_le_two_pow
  have h5 : 2 ^ L ≤ 2 ^ ((L + 1) / 2) * 2 ^ ((L + 1) / 2) := by rw [← Nat.pow_add]; exact Nat.pow_le_pow_right (by decide) (by omega)
  generalize 2 ^ ((L + 1) / 2) = R at *
  have h6 : n.toNat < R * R := Nat.lt_of_lt_of_le a h5
  have h7 : ((n.toNat : Nat) : Int) < ((R * R : Nat) : Int) := Int.ofNat_lt.2 h6
  rw [Int.natCast_mul] at h7
  refine ⟨hL, by omega, ?_⟩
  have e2 : (1 * (R : Int) + 1) * (1 * (R : Int) + 1) = (R : Int) * R + 2 * R + 1 := by rw [Int.one_mul, Int.add_mul, Int.mul_add]; omega
  omega
theorem div_bd {n r : Int} (h : 0 ≤ n) (hr : 0 < r) : 0 ≤ n / r ∧ n / r ≤ n := ⟨Int.ediv_nonneg h (by omega), Int.ediv_le_self _ h⟩
theorem newton_pos {n q : Int} (h : 0 < n) (hq : 0 ≤ q) (h2 : n < (q + 1) * (q + 1)) : 0 < q := by
  by_cases e : q = 0
  · subst e; omega
  · omega

def farI (a b : Point) : Int := (a.X - b.X) * (a.X - b.X) + (a.Y - b.Y) * (a.Y - b.Y)
theorem sq_bd {x B : Int} (h1 : -B ≤ x) (h2 : x ≤ B) : 0 ≤ x * x ∧ x * x ≤ B * B := by
  rcases Int.le_total 0 x with h | h
  · exact ⟨Int.mul_nonneg h h, sq_le h h2⟩
  · have := sq_le (a := -x) (b := B) (by omega) (by omega)
    rw [Int.neg_mul_neg] at this
    exact ⟨Int.mul_nonneg_of_nonpos_of_nonpos h h, this⟩
theorem far_bd {a b : Point} (ha : okP a = true) (hb : okP b = true) : (0 ≤ (a.X - b.X) * (a.X - b.X) ∧ (a.X - b.X) * (a.X - b.X) ≤ 16769025) ∧ (0 ≤ (a.Y - b.Y) * (a.Y - b.Y) ∧ (a.Y - b.Y) * (a.Y - b.Y) ≤ 16769025) := by
  have h1 := okP_iff.1 ha
  have h2 := okP_iff.1 hb
  exact ⟨sq_bd (B := 4095) (by omega) (by omega), sq_bd (B := 4095) (by omega) (by omega)⟩
/-- The length of a segment. -/
def segI (a b : Point) : Int := rootI (256 * farI a b)
theorem segI_bd {a b : Point} (ha : okP a = true) (hb : okP b = true) : (0 ≤ farI a b ∧ farI a b ≤ 33538050) ∧ 0 ≤ segI a b ∧ segI a b ≤ 92659 := by
  have := far_bd ha hb
  have h : 0 ≤ farI a b ∧ farI a b ≤ 33538050 := by unfold farI; omega
  exact ⟨h, rootI_bd (by omega) (by decide) (by omega)⟩

-- impl.squared
theorem squared_ok (a : Point) (b : Point) (ha : okP a = true) (hb : okP b = true) : Con Tryz.prog 94 [agPoint a, agPoint b] true (I (farI a b)) := by
  have ha' := okP_iff.1 ha
  have hb' := okP_iff.1 hb
  have hfb := far_bd ha hb
  refine fn_ok (fn := Tryz.f94) (nt := 28) Tryz.func94 rfl rfl rfl rfl (by simp [taggedL, tagged]) fun B hB => ?_
  refine aw_seq ?_
  refine aw_reg [(0, .new 2), (1, .new 3)] [2, 3] [2, 3] [.ref 2 0, .ref 3 0] [some (bxPoint a), some (bxPoint b)] [] (by kernel_rfl) hB trivial ?_
  refine ae_then ?_
  refine aw_seq ?_
  refine aw_reg [] [4] [] [I (((a.X - b.X) * (a.X - b.X)) + ((a.Y - b.Y) * (a.Y - b.Y)))] [] [inR .i64 (a.X - b.X), inR .i64 (a.X - b.X), inR .i64 ((a.X - b.X) * (a.X - b.X)), inR .i64 (a.Y - b.Y), inR .i64 (a.Y - b.Y), inR .i64 ((a.Y - b.Y) * (a.Y - b.Y)), inR .i64 (((a.X - b.X) * (a.X - b.X)) + ((a.Y - b.Y) * (a.Y - b.Y)))] (by kernel_rfl) hB ⟨(inR_i64 (by omega) (by omega)), (inR_i64 (by omega) (by omega)), (inR_i64 (by omega) (by omega)), (inR_i64 (by omega) (by omega)), (inR_i64 (by omega) (by omega)), (inR_i64 (by omega) (by omega)), (inR_i64 (by omega) (by omega)), trivial⟩ ?_
  refine ae_then ?_
  refine aw_ret ?_
  refine ae_ret hB (I (((a.X - b.X) * (a.X - b.X)) + ((a.Y - b.Y) * (a.Y - b.Y)))) (by kernel_rfl) (.inl (by first | rfl | (refine congrArg Bv ?_; simp [*]; done) | (refine congrArg Bv ?_; simp [*]; omega) | (refine congrArg Bv ?_; simp_all []; done) | (refine congrArg Bv ?_; simp_all []; omega))) rfl (fun _ => trivial)


-- bits.Len64
theorem len64_ok (x : Int) (h : 0 ≤ x ∧ x ≤ 18446744073709551615) : Con Tryz.prog 112 [.val (.int .u64 x)] true (I ((Lib.bitLen x.toNat : Nat) : Int)) := by
  refine con_of_calls (vals := [.int .u64 x]) fun w _ => ?_
  refine (Tryz.bits_Len64 x w h.1 h.2).mono ?_
  rintro e w' ⟨rfl, rfl⟩
  exact ⟨rfl, Below.refl _ _⟩


-- impl.rootOf
theorem rootOf_ok (n : Int) (hn : 0 ≤ n ∧ n ≤ 1000000000000000) : Con Tryz.prog 93 [I n] true (I (rootI n)) := by
  refine fn_ok (fn := Tryz.f93) (nt := 30) Tryz.func93 rfl rfl rfl rfl (by simp [taggedL, tagged]) fun B hB => ?_
  refine aw_seq ?_
  refine aw_reg [] [0] [] [I n] [] [] (by kernel_rfl) hB trivial ?_
  refine ae_then ?_
  refine aw_seq ?_
  refine aw_seq ?_
  by_cases h1 : n = 0
  ·refine aw_reg [(1, .dec true)] [0, 6] [] [I n, Bv true] [] [n = 0] (by kernel_rfl) hB ⟨h1, trivial⟩ ?_
   refine ae_then ?_
   refine aw_true rfl ?_
   refine aw_seq ?_
   refine aw_reg [] [2] [] [I 0] [] [] (by kernel_rfl) hB trivial ?_
   refine ae_then ?_
   refine aw_ret ?_
   refine ae_ret_then ?_
   refine ae_ret hB (I 0) (by kernel_rfl) (.inl (by first | (exact congrArg I (Eq.symm (rootI_eq (by omega) hfin hr1))) | (refine congrArg I ?_; rw [h1]; rfl))) rfl (fun _ => trivial)
  ·obtain ⟨hb1, hb2, hb3⟩ := root0 hn.1 hn.2
   have hq0 := div_bd (r := (1 * ((2 ^ ((((Lib.bitLen n.toNat : Nat) : Int) + 1) / 2).toNat : Nat) : Int))) hn.1 (by omega)
   refine aw_reg [(1, .dec false)] [0, 6] [] [I n, Bv false] [] [¬ (n = 0)] (by kernel_rfl) hB ⟨h1, trivial⟩ ?_
   refine ae_then ?_
   refine aw_false rfl ?_
   refine aw_skip ?_
   refine ae_then ?_
   refine aw_seq ?_
   refine aw_reg [(2, .call [(true, .val (.int .u64 n))] true (I ((Lib.bitLen n.toNat : Nat) : Int))), (4, .nn)] [0, 3] [] [I n, I (1 * ((2 ^ ((((Lib.bitLen n.toNat : Nat) : Int) + 1) / 2).toNat : Nat) : Int))] [] [inR .u64 n, Con Tryz.prog 112 [.val (.int .u64 n)] true (I ((Lib.bitLen n.toNat : Nat) : Int)) ∧ ((.val (.int .u64 n) : AV) = .val (.int .u64 n)) ∧ True, inR .i64 (((Lib.bitLen n.toNat : Nat) : Int) + 1), (0 : Int) ≤ (((Lib.bitLen n.toNat : Nat) : Int) + 1) ∧ (0 : Int) < 2 ∧ inR .i64 (((Lib.bitLen n.toNat : Nat) : Int) + 1), (0 : Int) ≤ ((((Lib.bitLen n.toNat : Nat) : Int) + 1) / 2) ∧ ((((Lib.bitLen n.toNat : Nat) : Int) + 1) / 2) ≤ ((IntKind.bits .i64 : Nat) : Int) ∧ inR .i64 (1 * ((2 ^ ((((Lib.bitLen n.toNat : Nat) : Int) + 1) / 2).toNat : Nat) : Int))] (by kernel_rfl) hB ⟨(inR_u64 (by omega) (by omega)), ⟨(len64_ok n (by omega)), rfl, trivial⟩, (inR_i64 (by omega) (by omega)), ⟨(by omega), (by omega), (inR_i64 (by omega) (by omega))⟩, ⟨(by omega), (show ((((Lib.bitLen n.toNat : Nat) : Int) + 1) / 2) ≤ (64 : Int) from by omega), (inR_i64 (by omega) (by omega))⟩, trivial⟩ ?_
   refine ae_then ?_
   refine aw_seq ?_
   refine aw_seq ?_
   refine aw_reg [(3, .nn), (5, .nn)] [0, 3, 4] [] [I n, I (1 * ((2 ^ ((((Lib.bitLen n.toNat : Nat) : Int) + 1) / 2).toNat : Nat) : Int)), I (((1 * ((2 ^ ((((Lib.bitLen n.toNat : Nat) : Int) + 1) / 2).toNat : Nat) : Int)) + (n / (1 * ((2 ^ ((((Lib.bitLen n.toNat : Nat) : Int) + 1) / 2).toNat : Nat) : Int)))) / 2)] [] [(0 : Int) ≤ n ∧ (0 : Int) < (1 * ((2 ^ ((((Lib.bitLen n.toNat : Nat) : Int) + 1) / 2).toNat : Nat) : Int)) ∧ inR .i64 n, inR .i64 ((1 * ((2 ^ ((((Lib.bitLen n.toNat : Nat) : Int) + 1) / 2).toNat : Nat) : Int)) + (n / (1 * ((2 ^ ((((Lib.bitLen n.toNat : Nat) : Int) + 1) / 2).toNat : Nat) : Int)))), (0 : Int) ≤ ((1 * ((2 ^ ((((Lib.bitLen n.toNat : Nat) : Int) + 1) / 2).toNat : Nat) : Int)) + (n / (1 * ((2 ^ ((((Lib.bitLen n.toNat : Nat) : Int) + 1) / 2).toNat : Nat) : Int)))) ∧ (0 : Int) < 2 ∧ inR .i64 ((1 * ((2 ^ ((((Lib.bitLen n.toNat : Nat) : Int) + 1) / 2).toNat : Nat) : Int)) + (n / (1 * ((2 ^ ((((Lib.bitLen n.toNat : Nat) : Int) + 1) / 2).toNat : Nat) : Int))))] (by kernel_rfl) hB ⟨⟨(by omega), (by omega), (inR_i64 (by omega) (by omega))⟩, (inR_i64 (by omega) (by omega)), ⟨(by omega), (by omega), (inR_i64 (by omega) (by omega))⟩, trivial⟩ ?_
   refine ae_then ?_
   refine aw_block ?_
   refine aw_loop (fun gn gσ => ∃ (r : Int) (next : Int), gn = r.toNat ∧ (0 < r ∧ r ≤ 33554432) ∧ (n < (r + 1) * (r + 1)) ∧ (next = (r + n / r) / 2) ∧ gσ = mkS [(0, I n), (3, I r), (4, I next)] []) ((1 * ((2 ^ ((((Lib.bitLen n.toNat : Nat) : Int) + 1) / 2).toNat : Nat) : Int)).toNat) ⟨(1 * ((2 ^ ((((Lib.bitLen n.toNat : Nat) : Int) + 1) / 2).toNat : Nat) : Int)), (((1 * ((2 ^ ((((Lib.bitLen n.toNat : Nat) : Int) + 1) / 2).toNat : Nat) : Int)) + (n / (1 * ((2 ^ ((((Lib.bitLen n.toNat : Nat) : Int) + 1) / 2).toNat : Nat) : Int)))) / 2), rfl, (by omega), (by exact hb3), (by rfl), rfl⟩ (fun gn gσ hI => ?_)
   obtain ⟨r, next, rfl, hr0, hr1, hr2, rfl⟩ := hI
   refine aw_seq ?_
   refine aw_seq ?_
   by_cases h2 : next < r
   ·have hn1 := newton (n := n) hr0.1
    rw [← hr2] at hn1
    have hq1 := div_bd (r := r) hn.1 hr0.1
    have hnp := newton_pos (q := next) (by omega) (by omega) hn1
    have hq2 := div_bd (r := next) hn.1 hnp
    refine aw_reg [(2, .dec true)] [0, 3, 4, 21] [] [I n, I r, I next, Bv true] [] [next < r] (by kernel_rfl) hB ⟨h2, trivial⟩ ?_
    refine ae_then ?_
    refine aw_true rfl ?_
    refine aw_skip ?_
    refine ae_then ?_
    refine aw_seq ?_
    refine aw_block ?_
    refine aw_reg [] [0, 3] [] [I n, I next] [] [] (by kernel_rfl) hB trivial ?_
    refine ae_block 1 ?_
    refine ae_then ?_
    refine aw_reg [(3, .nn), (5, .nn)] [0, 3, 4] [] [I n, I next, I ((next + (n / next)) / 2)] [] [(0 : Int) ≤ n ∧ (0 : Int) < next ∧ inR .i64 n, inR .i64 (next + (n / next)), (0 : Int) ≤ (next + (n / next)) ∧ (0 : Int) < 2 ∧ inR .i64 (next + (n / next))] (by kernel_rfl) hB ⟨⟨(by omega), (by omega), (inR_i64 (by omega) (by omega))⟩, (inR_i64 (by omega) (by omega)), ⟨(by omega), (by omega), (inR_i64 (by omega) (by omega))⟩, trivial⟩ ?_
    exact ae_again _ (by omega) ⟨next, ((next + (n / next)) / 2), rfl, (by omega), (by exact hn1), (by rfl), rfl⟩
   ·have hfin := newton_end hr0.1 (by rw [← hr2]; exact h2)
    refine aw_reg [(2, .dec false)] [0, 3, 4, 21] [] [I n, I r, I next, Bv false] [] [¬ (next < r)] (by kernel_rfl) hB ⟨h2, trivial⟩ ?_
    refine ae_then ?_
    refine aw_false rfl ?_
    refine aw_exit ?_
    refine ae_exit_then ?_
    refine ae_exit_then ?_
    refine ae_exit_same ?_
    refine ae_then ?_
    refine aw_seq ?_
    refine aw_reg [] [2] [] [I r] [] [] (by kernel_rfl) hB trivial ?_
    refine ae_then ?_
    refine aw_ret ?_
    refine ae_ret hB (I r) (by kernel_rfl) (.inl (by first | (exact congrArg I (Eq.symm (rootI_eq (by omega) hfin hr1))) | (refine congrArg I ?_; rw [h1]; rfl))) rfl (fun _ => trivial)


-- impl.lengthOf
theorem lengthOf_ok (a : Point) (b : Point) (ha : okP a = true) (hb : okP b = true) : Con Tryz.prog 68 [agPoint a, agPoint b] true (I (segI a b)) := by
  have ha' := okP_iff.1 ha
  have hb' := okP_iff.1 hb
  have hfb := far_bd ha hb
  have hlb := segI_bd ha hb
  refine fn_ok (fn := Tryz.f68) (nt := 10) Tryz.func68 rfl rfl rfl rfl (by simp [taggedL, tagged]) fun B hB => ?_
  refine aw_seq ?_
  refine aw_reg [(0, .new 2), (1, .new 3)] [2, 3] [2, 3] [.ref 2 0, .ref 3 0] [some (bxPoint a), some (bxPoint b)] [] (by kernel_rfl) hB trivial ?_
  refine ae_then ?_
  refine aw_seq ?_
  refine aw_reg [(2, .call [(true, agPoint a), (true, agPoint b)] true (I (farI a b))), (4, .call [(true, I (256 * (farI a b)))] true (I (rootI (256 * (farI a b)))))] [4] [] [I (rootI (256 * (farI a b)))] [] [Con Tryz.prog 94 [agPoint a, agPoint b] true (I (farI a b)) ∧ ((agPoint a : AV) = agPoint a) ∧ ((agPoint b : AV) = agPoint b) ∧ True, inR .i64 (256 * (farI a b)), Con Tryz.prog 93 [I (256 * (farI a b))] true (I (rootI (256 * (farI a b)))) ∧ ((I (256 * (farI a b)) : AV) = I (256 * (farI a b))) ∧ True] (by kernel_rfl) hB ⟨⟨(squared_ok a b ha hb), rfl, rfl, trivial⟩, (inR_i64 (by omega) (by omega)), ⟨(rootOf_ok (256 * (farI a b)) (by omega)), rfl, trivial⟩, trivial⟩ ?_
  refine ae_then ?_
  refine aw_ret ?_
  refine ae_ret hB (I (rootI (256 * (farI a b)))) (by kernel_rfl) (.inl (by first | rfl | (refine congrArg Bv ?_; simp [*]; done) | (refine congrArg Bv ?_; simp [*]; omega) | (refine congrArg Bv ?_; simp_all []; done) | (refine congrArg Bv ?_; simp_all []; omega))) rfl (fun _ => trivial)


/-- The length of the first points' way: segments that end ahead of the k-th point. -/
def sumS (xs : List Point) : Nat → Int
  | 0 => 0
  | k + 1 => sumS xs k + (if k = 0 then 0 else segI (at_ xs (k - 1)) (at_ xs k))
theorem sumS_succ {xs : List Point} {i : Int} (h : 1 ≤ i) : sumS xs (i + 1).toNat = sumS xs i.toNat + segI (at_ xs (i - 1).toNat) (at_ xs i.toNat) := by
  have e1 : (i + 1).toNat = i.toNat + 1 := by omega
  have e2 : (i - 1).toNat = i.toNat - 1 := by omega
  have e3 : ¬ i.toNat = 0 := by omega
  rw [e1, e2]; simp [sumS, e3]
/-- How often the way changes between left and right, and the last difference: over the segments that end ahead of the k-th point. -/
def revS (xs : List Point) : Nat → Int × Int
  | 0 => (0, 0)
  | k + 1 => if k = 0 then (0, 0) else
    let dx := (at_ xs k).X - (at_ xs (k - 1)).X
    let p := revS xs k
    if dx = 0 then p else (if p.2 ≠ 0 ∧ ¬ (0 < dx ↔ 0 < p.2) then p.1 + 1 else p.1, dx)

/-- The lengths up to the first k points. -/
def arcsL (xs : List Point) (k : Nat) : List Int := (List.range k).map fun j => sumS xs (j + 1)
theorem arcsL_len (xs : List Point) (k : Nat) : (arcsL xs k).length = k := by simp [arcsL]
theorem arcsL_at {xs : List Point} {k j : Nat} (h : j < k) : at_ (arcsL xs k) j = sumS xs (j + 1) := by simp [at_, arcsL, h]
theorem arcsL_succ (xs : List Point) (k : Nat) : arcsL xs (k + 1) = arcsL xs k ++ [sumS xs (k + 1)] := by simp [arcsL, List.range_succ]
theorem sumS_bd {s : Stroke} (ok : okStroke' s = true) : ∀ k : Nat, k ≤ s.Points.length → 0 ≤ sumS s.Points k ∧ sumS s.Points k ≤ 92659 * k
  | 0, _ => by simp [sumS]
  | k + 1, h => by
    have ih := sumS_bd ok k (by omega)
    unfold sumS
    split
    · omega
    · have := segI_bd (okS_at ok (j := k - 1) (by omega)) (okS_at ok (j := k) (by omega))
      omega

-- impl.arcsOf
theorem arcsOf_ok (s : Stroke) (ok : okStroke' s = true) : Con Tryz.prog 91 [.agg [slPoint false s.Points]] true (slI true (arcsL s.Points s.Points.length)) := by
  have hln := okS_len ok
  refine fn_ok (fn := Tryz.f91) (nt := 35) Tryz.func91 rfl rfl rfl rfl (by simp [taggedL, tagged, tagPoint]) fun B hB => ?_
  refine aw_lens (x := .agg [slPoint false s.Points]) 0 rfl (fun len_s => ?_)
  simp [LenOK, LenL, cPoint, fPoint, slPoint] at len_s
  refine aw_seq ?_
  refine aw_reg [(0, .new 1)] [1] [1] [.ref 1 0] [some (.box [slPoint false s.Points])] [] (by kernel_rfl) hB trivial ?_
  refine ae_then ?_
  refine aw_seq ?_
  refine aw_reg [(0, .new 5)] [1, 3] [1, 5] [.ref 1 0, .arr 5] [some (.box [slPoint false s.Points]), some (.arr 1 1 (litF [I 0] 1))] [] (by kernel_rfl) hB trivial ?_
  refine ae_then ?_
  refine aw_seq ?_
  refine aw_seq ?_
  refine aw_reg [] [1, 3, 4] [1, 5] [.ref 1 0, .arr 5, I 1] [some (.box [slPoint false s.Points]), some (.arr 1 1 (litF [I 0] 1))] [] (by kernel_rfl) hB trivial ?_
  refine ae_then ?_
  refine aw_block ?_
  refine aw_weak hB [] (T := [(1, .ref 1 0), (3, .arr 5), (4, I 1)]) (O := [(1, .box [slPoint false s.Points]), (5, .arr 1 (([0]).length) (fI ([0])))]) rfl (⟨.inl rfl, .inl rfl, .inl rfl, trivial⟩) (⟨.inl rfl, .inr ⟨rfl, (by first | rfl | (simp; done) | (simp; omega) | omega), fun i hi => .inl (match i, hi with | 0, _ => rfl | (i + 1), h => absurd h (by simp))⟩, trivial⟩) ?_
  refine aw_loop (fun gn gσ => ∃ (arcs : List Int) (k : Int), gn = ((s.Points.length : Int) - k).toNat ∧ (1 ≤ k ∧ k ≤ (s.Points.length : Int)) ∧ (arcs = arcsL s.Points k.toNat) ∧ gσ = mkS [(1, .ref 1 0), (3, .arr 5), (4, I k)] [(1, .box [slPoint false s.Points]), (5, .arr 1 arcs.length (fI arcs))]) (((s.Points.length : Int) - 1).toNat) ⟨[0], 1, rfl, (by omega), (by rfl), rfl⟩ (fun gn gσ hI => ?_)
  obtain ⟨arcs, k, rfl, hi0, hs0, rfl⟩ := hI
  refine aw_seq ?_
  refine aw_seq ?_
  by_cases h1 : k < (s.Points.length : Int)
  ·have hi : k.toNat < s.Points.length := by omega
   have hi2 : (k - 1).toNat < s.Points.length := by omega
   have hp1 := okS_at ok hi2
   have hp2 := okS_at ok hi
   have hlb := segI_bd hp1 hp2
   have hal : arcs.length = k.toNat := by rw [hs0, arcsL_len]
   have hav : at_ arcs (k - 1).toNat = sumS s.Points k.toNat := by rw [hs0, arcsL_at (by omega)]; congr 1; omega
   have hsb := sumS_bd ok k.toNat (by omega)
   refine aw_reg [(4, .dec true)] [1, 3, 4, 10] [1, 5] [.ref 1 0, .arr 5, I k, Bv true] [some (.box [slPoint false s.Points]), some (.arr 1 arcs.length (fI arcs))] [k < (s.Points.length : Int)] (by kernel_rfl) hB ⟨h1, trivial⟩ ?_
   refine ae_then ?_
   refine aw_true rfl ?_
   refine aw_skip ?_
   refine ae_then ?_
   refine aw_seq ?_
   refine aw_block ?_
   refine aw_reg [(17, .call [(true, agPoint (at_ s.Points ((k - 1).toNat))), (true, agPoint (at_ s.Points k.toNat))] true (I (segI (at_ s.Points ((k - 1).toNat)) (at_ s.Points k.toNat)))), (19, .new 32), (20, .new 33)] [1, 3, 4] [1, 33] [.ref 1 0, .arr 33, I k] [some (.box [slPoint false s.Points]), some (.arr 1 (arcs.length + 1) (catF arcs.length (fI arcs) (litF [I ((at_ arcs ((k - 1).toNat)) + (segI (at_ s.Points ((k - 1).toNat)) (at_ s.Points k.toNat)))] 1)))] [inR .i64 (k - 1), (0 : Int) ≤ (k - 1) ∧ (k - 1) < (arcs.length : Int), (k - 1).toNat < arcs.length, inR .i64 (k - 1), (0 : Int) ≤ (k - 1) ∧ (k - 1) < (s.Points.length : Int), (0 : Int) ≤ k ∧ k < (s.Points.length : Int), Con Tryz.prog 68 [agPoint (at_ s.Points ((k - 1).toNat)), agPoint (at_ s.Points k.toNat)] true (I (segI (at_ s.Points ((k - 1).toNat)) (at_ s.Points k.toNat))) ∧ ((agPoint (at_ s.Points ((k - 1).toNat)) : AV) = agPoint (at_ s.Points ((k - 1).toNat))) ∧ ((agPoint (at_ s.Points k.toNat) : AV) = agPoint (at_ s.Points k.toNat)) ∧ True, inR .i64 ((at_ arcs ((k - 1).toNat)) + (segI (at_ s.Points ((k - 1).toNat)) (at_ s.Points k.toNat))), (arcs.length + 1) * 8 ≤ 140737488355328] (by kernel_rfl) hB ⟨(inR_i64 (by omega) (by omega)), ⟨(by omega), (by omega)⟩, (by omega), (inR_i64 (by omega) (by omega)), ⟨(by omega), (by omega)⟩, ⟨(by omega), (by omega)⟩, ⟨(lengthOf_ok (at_ s.Points ((k - 1).toNat)) (at_ s.Points k.toNat) hp1 hp2), rfl, rfl, trivial⟩, (inR_i64 (by omega) (by omega)), (by omega), trivial⟩ ?_
   refine ae_block 1 ?_
   refine ae_then ?_
   refine aw_reg [] [1, 3, 4] [1, 33] [.ref 1 0, .arr 33, I (k + 1)] [some (.box [slPoint false s.Points]), some (.arr 1 (arcs.length + 1) (catF arcs.length (fI arcs) (litF [I ((at_ arcs ((k - 1).toNat)) + (segI (at_ s.Points ((k - 1).toNat)) (at_ s.Points k.toNat)))] 1)))] [inR .i64 (k + 1)] (by kernel_rfl) hB ⟨(inR_i64 (by omega) (by omega)), trivial⟩ ?_
   refine ae_weak hB [(5, 33)] (T := [(1, .ref 1 0), (3, .arr 5), (4, I (k + 1))]) (O := [(1, .box [slPoint false s.Points]), (5, .arr 1 ((arcs ++ [((at_ arcs ((k - 1).toNat)) + (segI (at_ s.Points ((k - 1).toNat)) (at_ s.Points k.toNat)))]).length) (fI (arcs ++ [((at_ arcs ((k - 1).toNat)) + (segI (at_ s.Points ((k - 1).toNat)) (at_ s.Points k.toNat)))])))]) rfl (⟨.inl rfl, .inl rfl, .inl rfl, trivial⟩) (⟨.inl rfl, .inr ⟨rfl, (by first | rfl | (simp; done) | (simp; omega) | omega), fun i hi => .inl (cat_snoc (enc := cI) (xs := arcs) rfl i hi)⟩, trivial⟩) (ae_again _ (by omega) ⟨(arcs ++ [((at_ arcs ((k - 1).toNat)) + (segI (at_ s.Points ((k - 1).toNat)) (at_ s.Points k.toNat)))]), (k + 1), rfl, (by omega), (by have e : (k + 1).toNat = k.toNat + 1 := (by omega); rw [e, arcsL_succ, ← e, sumS_succ hi0.1, ← hs0, hav]), rfl⟩)
  ·have hie : k.toNat = s.Points.length := by omega
   rw [hie] at hs0
   subst hs0
   refine aw_reg [(4, .dec false)] [1, 3, 4, 10] [1, 5] [.ref 1 0, .arr 5, I k, Bv false] [some (.box [slPoint false s.Points]), some (.arr 1 ((arcsL s.Points s.Points.length).length) (fI (arcsL s.Points s.Points.length)))] [¬ (k < (s.Points.length : Int))] (by kernel_rfl) hB ⟨h1, trivial⟩ ?_
   refine ae_then ?_
   refine aw_false rfl ?_
   refine aw_exit ?_
   refine ae_exit_then ?_
   refine ae_exit_then ?_
   refine ae_exit_same ?_
   refine ae_then ?_
   refine aw_seq ?_
   refine aw_reg [] [2] [5] [.arr 5] [some (.arr 1 ((arcsL s.Points s.Points.length).length) (fI (arcsL s.Points s.Points.length)))] [] (by kernel_rfl) hB trivial ?_
   refine ae_then ?_
   refine aw_ret ?_
   refine ae_ret hB (.arr 5) (by kernel_rfl) (.inr ⟨(fun _ => rfl), rfl, rfl, fun i _ => .inl rfl⟩) rfl (fun _ => (tagI true _))


-- impl.strokeLength
theorem strokeLength_ok (s : Stroke) (ok : okStroke' s = true) : Con Tryz.prog 62 [.agg [slPoint false s.Points]] true (I (sumS s.Points s.Points.length)) := by
  have hln := okS_len ok
  have hal := arcsL_len s.Points s.Points.length
  refine fn_ok (fn := Tryz.f62) (nt := 12) Tryz.func62 rfl rfl rfl rfl (by simp [taggedL, tagged, tagPoint]) fun B hB => ?_
  refine aw_lens (x := .agg [slPoint false s.Points]) 0 rfl (fun len_s => ?_)
  simp [LenOK, LenL, cPoint, fPoint, slPoint] at len_s
  refine aw_seq ?_
  refine aw_reg [(0, .new 1)] [1] [1] [.ref 1 0] [some (.box [slPoint false s.Points])] [] (by kernel_rfl) hB trivial ?_
  refine ae_then ?_
  refine aw_seq ?_
  refine aw_reg [(1, .call [(true, .agg [slPoint false s.Points])] true (slI true (arcsL s.Points s.Points.length)))] [3] [] [slI true (arcsL s.Points s.Points.length)] [] [Con Tryz.prog 91 [.agg [slPoint false s.Points]] true (slI true (arcsL s.Points s.Points.length)) ∧ ((.agg [slPoint false s.Points] : AV) = .agg [slPoint false s.Points]) ∧ True] (by kernel_rfl) hB ⟨⟨(arcsOf_ok s ok), rfl, trivial⟩, trivial⟩ ?_
  refine ae_then ?_
  refine aw_seq ?_
  refine aw_reg [] [2] [] [I (at_ (arcsL s.Points s.Points.length) (((((arcsL s.Points s.Points.length).length) : Int) - 1).toNat))] [] [inR .i64 ((((arcsL s.Points s.Points.length).length) : Int) - 1), (0 : Int) ≤ ((((arcsL s.Points s.Points.length).length) : Int) - 1) ∧ ((((arcsL s.Points s.Points.length).length) : Int) - 1) < (((arcsL s.Points s.Points.length).length) : Int)] (by kernel_rfl) hB ⟨(inR_i64 (by omega) (by omega)), ⟨(by omega), (by omega)⟩, trivial⟩ ?_
  refine ae_then ?_
  refine aw_ret ?_
  refine ae_ret hB (I (at_ (arcsL s.Points s.Points.length) (((((arcsL s.Points s.Points.length).length) : Int) - 1).toNat))) (by kernel_rfl) (.inl (by rw [arcsL_at (by omega)]; congr 2; omega)) rfl (fun _ => trivial)


theorem revS_1 {xs : List Point} {i : Int} (h : 1 ≤ i) : (revS xs (i + 1).toNat).1 = if (at_ xs i.toNat).X - (at_ xs (i - 1).toNat).X ≠ 0 ∧ (revS xs i.toNat).2 ≠ 0 ∧ ¬ (0 < (at_ xs i.toNat).X - (at_ xs (i - 1).toNat).X ↔ 0 < (revS xs i.toNat).2) then (revS xs i.toNat).1 + 1 else (revS xs i.toNat).1 := by
  have e1 : (i + 1).toNat = i.toNat + 1 := by omega
  have e2 : (i - 1).toNat = i.toNat - 1 := by omega
  have e3 : ¬ i.toNat = 0 := by omega
  rw [e1, e2]; simp only [revS, if_neg e3]
  by_cases h : (at_ xs i.toNat).X - (at_ xs (i.toNat - 1)).X = 0 <;> simp [h]
theorem revS_2 {xs : List Point} {i : Int} (h : 1 ≤ i) : (revS xs (i + 1).toNat).2 = if (at_ xs i.toNat).X - (at_ xs (i - 1).toNat).X = 0 then (revS xs i.toNat).2 else (at_ xs i.toNat).X - (at_ xs (i - 1).toNat).X := by
  have e1 : (i + 1).toNat = i.toNat + 1 := by omega
  have e2 : (i - 1).toNat = i.toNat - 1 := by omega
  have e3 : ¬ i.toNat = 0 := by omega
  rw [e1, e2]; simp only [revS, if_neg e3]
  by_cases h : (at_ xs i.toNat).X - (at_ xs (i.toNat - 1)).X = 0 <;> simp [h]

-- impl.reversalsOf
theorem reversalsOf_ok (s : Stroke) (ok : okStroke' s = true) : Con Tryz.prog 37 [.agg [slPoint false s.Points]] true (I ((revS s.Points s.Points.length).1)) := by
  have hln := okS_len ok
  refine fn_ok (fn := Tryz.f37) (nt := 48) Tryz.func37 rfl rfl rfl rfl (by simp [taggedL, tagged, tagPoint]) fun B hB => ?_
  refine aw_lens (x := .agg [slPoint false s.Points]) 0 rfl (fun len_s => ?_)
  simp [LenOK, LenL, cPoint, fPoint, slPoint] at len_s
  refine aw_seq ?_
  refine aw_reg [(0, .new 1)] [1] [1] [.ref 1 0] [some (.box [slPoint false s.Points])] [] (by kernel_rfl) hB trivial ?_
  refine ae_then ?_
  refine aw_seq ?_
  refine aw_reg [] [1, 3, 4] [1] [.ref 1 0, I 0, I 0] [some (.box [slPoint false s.Points])] [] (by kernel_rfl) hB trivial ?_
  refine ae_then ?_
  refine aw_seq ?_
  refine aw_seq ?_
  refine aw_reg [] [1, 3, 4, 5] [1] [.ref 1 0, I 0, I 0, I 1] [some (.box [slPoint false s.Points])] [] (by kernel_rfl) hB trivial ?_
  refine ae_then ?_
  refine aw_block ?_
  refine aw_loop (fun gn gσ => ∃ (count : Int) (last : Int) (k : Int), gn = ((s.Points.length : Int) - k).toNat ∧ (1 ≤ k ∧ k ≤ (s.Points.length : Int)) ∧ (count = (revS s.Points k.toNat).1) ∧ (last = (revS s.Points k.toNat).2) ∧ (0 ≤ count ∧ count ≤ k) ∧ gσ = mkS [(1, .ref 1 0), (3, I count), (4, I last), (5, I k)] [(1, .box [slPoint false s.Points])]) (((s.Points.length : Int) - 1).toNat) ⟨0, 0, 1, rfl, (by omega), (by rfl), (by rfl), (by omega), rfl⟩ (fun gn gσ hI => ?_)
  obtain ⟨count, last, k, rfl, hi0, hr1, hr2, hr3, rfl⟩ := hI
  refine aw_seq ?_
  refine aw_seq ?_
  by_cases h1 : k < (s.Points.length : Int)
  ·have hi : k.toNat < s.Points.length := by omega
   have hi2 : (k - 1).toNat < s.Points.length := by omega
   have hp1 := okP_iff.1 (okS_at ok hi2)
   have hp2 := okP_iff.1 (okS_at ok hi)
   refine aw_reg [(4, .dec true)] [1, 3, 4, 5, 11] [1] [.ref 1 0, I count, I last, I k, Bv true] [some (.box [slPoint false s.Points])] [k < (s.Points.length : Int)] (by kernel_rfl) hB ⟨h1, trivial⟩ ?_
   refine ae_then ?_
   refine aw_true rfl ?_
   refine aw_skip ?_
   refine ae_then ?_
   refine aw_seq ?_
   refine aw_block ?_
   refine aw_seq ?_
   refine aw_reg [] [1, 3, 4, 5, 6] [1] [.ref 1 0, I count, I last, I k, I (((at_ s.Points k.toNat).X) - ((at_ s.Points ((k - 1).toNat)).X))] [some (.box [slPoint false s.Points])] [(0 : Int) ≤ k ∧ k < (s.Points.length : Int), inR .i64 (k - 1), (0 : Int) ≤ (k - 1) ∧ (k - 1) < (s.Points.length : Int), inR .i64 (((at_ s.Points k.toNat).X) - ((at_ s.Points ((k - 1).toNat)).X))] (by kernel_rfl) hB ⟨⟨(by omega), (by omega)⟩, (inR_i64 (by omega) (by omega)), ⟨(by omega), (by omega)⟩, (inR_i64 (by omega) (by omega)), trivial⟩ ?_
   refine ae_then ?_
   refine aw_seq ?_
   refine aw_seq ?_
   by_cases h2 : (((at_ s.Points k.toNat).X) - ((at_ s.Points ((k - 1).toNat)).X)) = 0
   ·refine aw_reg [(1, .dec true)] [1, 3, 4, 5, 6, 29] [1] [.ref 1 0, I count, I last, I k, I (((at_ s.Points k.toNat).X) - ((at_ s.Points ((k - 1).toNat)).X)), Bv true] [some (.box [slPoint false s.Points])] [(((at_ s.Points k.toNat).X) - ((at_ s.Points ((k - 1).toNat)).X)) = 0] (by kernel_rfl) hB ⟨h2, trivial⟩ ?_
    refine ae_then ?_
    refine aw_true rfl ?_
    refine aw_exit ?_
    refine ae_exit_then ?_
    refine ae_exit_same ?_
    refine ae_then ?_
    refine aw_reg [] [1, 3, 4, 5] [1] [.ref 1 0, I count, I last, I (k + 1)] [some (.box [slPoint false s.Points])] [inR .i64 (k + 1)] (by kernel_rfl) hB ⟨(inR_i64 (by omega) (by omega)), trivial⟩ ?_
    exact ae_again _ (by omega) ⟨count, last, (k + 1), rfl, (by omega), (by rw [revS_1 hi0.1, ← hr1, ← hr2]; omega), (by rw [revS_2 hi0.1, ← hr2]; omega), (by omega), rfl⟩
   ·refine aw_reg [(1, .dec false)] [1, 3, 4, 5, 6, 29] [1] [.ref 1 0, I count, I last, I k, I (((at_ s.Points k.toNat).X) - ((at_ s.Points ((k - 1).toNat)).X)), Bv false] [some (.box [slPoint false s.Points])] [¬ ((((at_ s.Points k.toNat).X) - ((at_ s.Points ((k - 1).toNat)).X)) = 0)] (by kernel_rfl) hB ⟨h2, trivial⟩ ?_
    refine ae_then ?_
    refine aw_false rfl ?_
    refine aw_skip ?_
    refine ae_then ?_
    refine aw_seq ?_
    refine aw_seq ?_
    by_cases h3 : (((at_ s.Points k.toNat).X) - ((at_ s.Points ((k - 1).toNat)).X)) < 0
    ·by_cases h4 : 0 < last
     ·refine aw_reg [(1, .dec true), (4, .dec true)] [1, 3, 5, 6, 43] [1] [.ref 1 0, I count, I k, I (((at_ s.Points k.toNat).X) - ((at_ s.Points ((k - 1).toNat)).X)), Bv true] [some (.box [slPoint false s.Points])] [(((at_ s.Points k.toNat).X) - ((at_ s.Points ((k - 1).toNat)).X)) < 0, 0 < last] (by kernel_rfl) hB ⟨h3, h4, trivial⟩ ?_
      refine ae_then ?_
      refine aw_true rfl ?_
      refine aw_reg [] [1, 3, 5, 6] [1] [.ref 1 0, I (count + 1), I k, I (((at_ s.Points k.toNat).X) - ((at_ s.Points ((k - 1).toNat)).X))] [some (.box [slPoint false s.Points])] [inR .i64 (count + 1)] (by kernel_rfl) hB ⟨(inR_i64 (by omega) (by omega)), trivial⟩ ?_
      refine ae_then ?_
      refine aw_reg [] [1, 3, 4, 5] [1] [.ref 1 0, I (count + 1), I (((at_ s.Points k.toNat).X) - ((at_ s.Points ((k - 1).toNat)).X)), I k] [some (.box [slPoint false s.Points])] [] (by kernel_rfl) hB trivial ?_
      refine ae_block 1 ?_
      refine ae_then ?_
      refine aw_reg [] [1, 3, 4, 5] [1] [.ref 1 0, I (count + 1), I (((at_ s.Points k.toNat).X) - ((at_ s.Points ((k - 1).toNat)).X)), I (k + 1)] [some (.box [slPoint false s.Points])] [inR .i64 (k + 1)] (by kernel_rfl) hB ⟨(inR_i64 (by omega) (by omega)), trivial⟩ ?_
      exact ae_again _ (by omega) ⟨(count + 1), (((at_ s.Points k.toNat).X) - ((at_ s.Points ((k - 1).toNat)).X)), (k + 1), rfl, (by omega), (by rw [revS_1 hi0.1, ← hr1, ← hr2]; omega), (by rw [revS_2 hi0.1, ← hr2]; omega), (by omega), rfl⟩
     ·by_cases h5 : 0 < (((at_ s.Points k.toNat).X) - ((at_ s.Points ((k - 1).toNat)).X))
      ·by_cases h6 : last < 0
       ·refine aw_reg [(1, .dec true), (4, .dec false), (8, .dec true), (11, .dec true)] [1, 3, 5, 6, 43] [1] [.ref 1 0, I count, I k, I (((at_ s.Points k.toNat).X) - ((at_ s.Points ((k - 1).toNat)).X)), Bv true] [some (.box [slPoint false s.Points])] [(((at_ s.Points k.toNat).X) - ((at_ s.Points ((k - 1).toNat)).X)) < 0, ¬ (0 < last), 0 < (((at_ s.Points k.toNat).X) - ((at_ s.Points ((k - 1).toNat)).X)), last < 0] (by kernel_rfl) hB ⟨h3, h4, h5, h6, trivial⟩ ?_
        refine ae_then ?_
        refine aw_true rfl ?_
        refine aw_reg [] [1, 3, 5, 6] [1] [.ref 1 0, I (count + 1), I k, I (((at_ s.Points k.toNat).X) - ((at_ s.Points ((k - 1).toNat)).X))] [some (.box [slPoint false s.Points])] [inR .i64 (count + 1)] (by kernel_rfl) hB ⟨(inR_i64 (by omega) (by omega)), trivial⟩ ?_
        refine ae_then ?_
        refine aw_reg [] [1, 3, 4, 5] [1] [.ref 1 0, I (count + 1), I (((at_ s.Points k.toNat).X) - ((at_ s.Points ((k - 1).toNat)).X)), I k] [some (.box [slPoint false s.Points])] [] (by kernel_rfl) hB trivial ?_
        refine ae_block 1 ?_
        refine ae_then ?_
        refine aw_reg [] [1, 3, 4, 5] [1] [.ref 1 0, I (count + 1), I (((at_ s.Points k.toNat).X) - ((at_ s.Points ((k - 1).toNat)).X)), I (k + 1)] [some (.box [slPoint false s.Points])] [inR .i64 (k + 1)] (by kernel_rfl) hB ⟨(inR_i64 (by omega) (by omega)), trivial⟩ ?_
        exact ae_again _ (by omega) ⟨(count + 1), (((at_ s.Points k.toNat).X) - ((at_ s.Points ((k - 1).toNat)).X)), (k + 1), rfl, (by omega), (by rw [revS_1 hi0.1, ← hr1, ← hr2]; omega), (by rw [revS_2 hi0.1, ← hr2]; omega), (by omega), rfl⟩
       ·refine aw_reg [(1, .dec true), (4, .dec false), (8, .dec true), (11, .dec false)] [1, 3, 5, 6, 43] [1] [.ref 1 0, I count, I k, I (((at_ s.Points k.toNat).X) - ((at_ s.Points ((k - 1).toNat)).X)), Bv false] [some (.box [slPoint false s.Points])] [(((at_ s.Points k.toNat).X) - ((at_ s.Points ((k - 1).toNat)).X)) < 0, ¬ (0 < last), 0 < (((at_ s.Points k.toNat).X) - ((at_ s.Points ((k - 1).toNat)).X)), ¬ (last < 0)] (by kernel_rfl) hB ⟨h3, h4, h5, h6, trivial⟩ ?_
        refine ae_then ?_
        refine aw_false rfl ?_
        refine aw_skip ?_
        refine ae_then ?_
        refine aw_reg [] [1, 3, 4, 5] [1] [.ref 1 0, I count, I (((at_ s.Points k.toNat).X) - ((at_ s.Points ((k - 1).toNat)).X)), I k] [some (.box [slPoint false s.Points])] [] (by kernel_rfl) hB trivial ?_
        refine ae_block 1 ?_
        refine ae_then ?_
        refine aw_reg [] [1, 3, 4, 5] [1] [.ref 1 0, I count, I (((at_ s.Points k.toNat).X) - ((at_ s.Points ((k - 1).toNat)).X)), I (k + 1)] [some (.box [slPoint false s.Points])] [inR .i64 (k + 1)] (by kernel_rfl) hB ⟨(inR_i64 (by omega) (by omega)), trivial⟩ ?_
        exact ae_again _ (by omega) ⟨count, (((at_ s.Points k.toNat).X) - ((at_ s.Points ((k - 1).toNat)).X)), (k + 1), rfl, (by omega), (by rw [revS_1 hi0.1, ← hr1, ← hr2]; omega), (by rw [revS_2 hi0.1, ← hr2]; omega), (by omega), rfl⟩
      ·refine aw_reg [(1, .dec true), (4, .dec false), (8, .dec false)] [1, 3, 5, 6, 43] [1] [.ref 1 0, I count, I k, I (((at_ s.Points k.toNat).X) - ((at_ s.Points ((k - 1).toNat)).X)), Bv false] [some (.box [slPoint false s.Points])] [(((at_ s.Points k.toNat).X) - ((at_ s.Points ((k - 1).toNat)).X)) < 0, ¬ (0 < last), ¬ (0 < (((at_ s.Points k.toNat).X) - ((at_ s.Points ((k - 1).toNat)).X)))] (by kernel_rfl) hB ⟨h3, h4, h5, trivial⟩ ?_
       refine ae_then ?_
       refine aw_false rfl ?_
       refine aw_skip ?_
       refine ae_then ?_
       refine aw_reg [] [1, 3, 4, 5] [1] [.ref 1 0, I count, I (((at_ s.Points k.toNat).X) - ((at_ s.Points ((k - 1).toNat)).X)), I k] [some (.box [slPoint false s.Points])] [] (by kernel_rfl) hB trivial ?_
       refine ae_block 1 ?_
       refine ae_then ?_
       refine aw_reg [] [1, 3, 4, 5] [1] [.ref 1 0, I count, I (((at_ s.Points k.toNat).X) - ((at_ s.Points ((k - 1).toNat)).X)), I (k + 1)] [some (.box [slPoint false s.Points])] [inR .i64 (k + 1)] (by kernel_rfl) hB ⟨(inR_i64 (by omega) (by omega)), trivial⟩ ?_
       exact ae_again _ (by omega) ⟨count, (((at_ s.Points k.toNat).X) - ((at_ s.Points ((k - 1).toNat)).X)), (k + 1), rfl, (by omega), (by rw [revS_1 hi0.1, ← hr1, ← hr2]; omega), (by rw [revS_2 hi0.1, ← hr2]; omega), (by omega), rfl⟩
    ·by_cases h7 : 0 < (((at_ s.Points k.toNat).X) - ((at_ s.Points ((k - 1).toNat)).X))
     ·by_cases h8 : last < 0
      ·refine aw_reg [(1, .dec false), (8, .dec true), (11, .dec true)] [1, 3, 5, 6, 43] [1] [.ref 1 0, I count, I k, I (((at_ s.Points k.toNat).X) - ((at_ s.Points ((k - 1).toNat)).X)), Bv true] [some (.box [slPoint false s.Points])] [¬ ((((at_ s.Points k.toNat).X) - ((at_ s.Points ((k - 1).toNat)).X)) < 0), 0 < (((at_ s.Points k.toNat).X) - ((at_ s.Points ((k - 1).toNat)).X)), last < 0] (by kernel_rfl) hB ⟨h3, h7, h8, trivial⟩ ?_
       refine ae_then ?_
       refine aw_true rfl ?_
       refine aw_reg [] [1, 3, 5, 6] [1] [.ref 1 0, I (count + 1), I k, I (((at_ s.Points k.toNat).X) - ((at_ s.Points ((k - 1).toNat)).X))] [some (.box [slPoint false s.Points])] [inR .i64 (count + 1)] (by kernel_rfl) hB ⟨(inR_i64 (by omega) (by omega)), trivial⟩ ?_
       refine ae_then ?_
       refine aw_reg [] [1, 3, 4, 5] [1] [.ref 1 0, I (count + 1), I (((at_ s.Points k.toNat).X) - ((at_ s.Points ((k - 1).toNat)).X)), I k] [some (.box [slPoint false s.Points])] [] (by kernel_rfl) hB trivial ?_
       refine ae_block 1 ?_
       refine ae_then ?_
       refine aw_reg [] [1, 3, 4, 5] [1] [.ref 1 0, I (count + 1), I (((at_ s.Points k.toNat).X) - ((at_ s.Points ((k - 1).toNat)).X)), I (k + 1)] [some (.box [slPoint false s.Points])] [inR .i64 (k + 1)] (by kernel_rfl) hB ⟨(inR_i64 (by omega) (by omega)), trivial⟩ ?_
       exact ae_again _ (by omega) ⟨(count + 1), (((at_ s.Points k.toNat).X) - ((at_ s.Points ((k - 1).toNat)).X)), (k + 1), rfl, (by omega), (by rw [revS_1 hi0.1, ← hr1, ← hr2]; omega), (by rw [revS_2 hi0.1, ← hr2]; omega), (by omega), rfl⟩
      ·refine aw_reg [(1, .dec false), (8, .dec true), (11, .dec false)] [1, 3, 5, 6, 43] [1] [.ref 1 0, I count, I k, I (((at_ s.Points k.toNat).X) - ((at_ s.Points ((k - 1).toNat)).X)), Bv false] [some (.box [slPoint false s.Points])] [¬ ((((at_ s.Points k.toNat).X) - ((at_ s.Points ((k - 1).toNat)).X)) < 0), 0 < (((at_ s.Points k.toNat).X) - ((at_ s.Points ((k - 1).toNat)).X)), ¬ (last < 0)] (by kernel_rfl) hB ⟨h3, h7, h8, trivial⟩ ?_
       refine ae_then ?_
       refine aw_false rfl ?_
       refine aw_skip ?_
       refine ae_then ?_
       refine aw_reg [] [1, 3, 4, 5] [1] [.ref 1 0, I count, I (((at_ s.Points k.toNat).X) - ((at_ s.Points ((k - 1).toNat)).X)), I k] [some (.box [slPoint false s.Points])] [] (by kernel_rfl) hB trivial ?_
       refine ae_block 1 ?_
       refine ae_then ?_
       refine aw_reg [] [1, 3, 4, 5] [1] [.ref 1 0, I count, I (((at_ s.Points k.toNat).X) - ((at_ s.Points ((k - 1).toNat)).X)), I (k + 1)] [some (.box [slPoint false s.Points])] [inR .i64 (k + 1)] (by kernel_rfl) hB ⟨(inR_i64 (by omega) (by omega)), trivial⟩ ?_
       exact ae_again _ (by omega) ⟨count, (((at_ s.Points k.toNat).X) - ((at_ s.Points ((k - 1).toNat)).X)), (k + 1), rfl, (by omega), (by rw [revS_1 hi0.1, ← hr1, ← hr2]; omega), (by rw [revS_2 hi0.1, ← hr2]; omega), (by omega), rfl⟩
     ·refine aw_reg [(1, .dec false), (8, .dec false)] [1, 3, 5, 6, 43] [1] [.ref 1 0, I count, I k, I (((at_ s.Points k.toNat).X) - ((at_ s.Points ((k - 1).toNat)).X)), Bv false] [some (.box [slPoint false s.Points])] [¬ ((((at_ s.Points k.toNat).X) - ((at_ s.Points ((k - 1).toNat)).X)) < 0), ¬ (0 < (((at_ s.Points k.toNat).X) - ((at_ s.Points ((k - 1).toNat)).X)))] (by kernel_rfl) hB ⟨h3, h7, trivial⟩ ?_
      refine ae_then ?_
      refine aw_false rfl ?_
      refine aw_skip ?_
      refine ae_then ?_
      refine aw_reg [] [1, 3, 4, 5] [1] [.ref 1 0, I count, I (((at_ s.Points k.toNat).X) - ((at_ s.Points ((k - 1).toNat)).X)), I k] [some (.box [slPoint false s.Points])] [] (by kernel_rfl) hB trivial ?_
      refine ae_block 1 ?_
      refine ae_then ?_
      refine aw_reg [] [1, 3, 4, 5] [1] [.ref 1 0, I count, I (((at_ s.Points k.toNat).X) - ((at_ s.Points ((k - 1).toNat)).X)), I (k + 1)] [some (.box [slPoint false s.Points])] [inR .i64 (k + 1)] (by kernel_rfl) hB ⟨(inR_i64 (by omega) (by omega)), trivial⟩ ?_
      exact ae_again _ (by omega) ⟨count, (((at_ s.Points k.toNat).X) - ((at_ s.Points ((k - 1).toNat)).X)), (k + 1), rfl, (by omega), (by rw [revS_1 hi0.1, ← hr1, ← hr2]; omega), (by rw [revS_2 hi0.1, ← hr2]; omega), (by omega), rfl⟩
  ·have hie : k.toNat = s.Points.length := by omega
   rw [hie] at hr1
   refine aw_reg [(4, .dec false)] [1, 3, 4, 5, 11] [1] [.ref 1 0, I count, I last, I k, Bv false] [some (.box [slPoint false s.Points])] [¬ (k < (s.Points.length : Int))] (by kernel_rfl) hB ⟨h1, trivial⟩ ?_
   refine ae_then ?_
   refine aw_false rfl ?_
   refine aw_exit ?_
   refine ae_exit_then ?_
   refine ae_exit_then ?_
   refine ae_exit_same ?_
   refine ae_then ?_
   refine aw_seq ?_
   refine aw_reg [] [2] [] [I count] [] [] (by kernel_rfl) hB trivial ?_
   refine ae_then ?_
   refine aw_ret ?_
   refine ae_ret hB (I count) (by kernel_rfl) (.inl (by rw [hr1])) rfl (fun _ => trivial)


-- impl.abs
theorem abs_ok (n : Int) (hn : -9223372036854775807 ≤ n ∧ n ≤ 9223372036854775807) : Con Tryz.prog 67 [I n] true (I (n.natAbs : Int)) := by
  refine fn_ok (fn := Tryz.f67) (nt := 8) Tryz.func67 rfl rfl rfl rfl (by simp [taggedL, tagged]) fun B hB => ?_
  refine aw_seq ?_
  refine aw_reg [] [0] [] [I n] [] [] (by kernel_rfl) hB trivial ?_
  refine ae_then ?_
  refine aw_seq ?_
  refine aw_seq ?_
  by_cases h1 : n < 0
  ·refine aw_reg [(1, .dec true)] [0, 4] [] [I n, Bv true] [] [n < 0] (by kernel_rfl) hB ⟨h1, trivial⟩ ?_
   refine ae_then ?_
   refine aw_true rfl ?_
   refine aw_seq ?_
   refine aw_reg [] [2] [] [I (-n)] [] [inR .i64 (-n)] (by kernel_rfl) hB ⟨(inR_i64 (by omega) (by omega)), trivial⟩ ?_
   refine ae_then ?_
   refine aw_ret ?_
   refine ae_ret_then ?_
   refine ae_ret hB (I (-n)) (by kernel_rfl) (.inl (by refine congrArg I ?_; omega)) rfl (fun _ => trivial)
  ·refine aw_reg [(1, .dec false)] [0, 4] [] [I n, Bv false] [] [¬ (n < 0)] (by kernel_rfl) hB ⟨h1, trivial⟩ ?_
   refine ae_then ?_
   refine aw_false rfl ?_
   refine aw_skip ?_
   refine ae_then ?_
   refine aw_seq ?_
   refine aw_reg [] [2] [] [I n] [] [] (by kernel_rfl) hB trivial ?_
   refine ae_then ?_
   refine aw_ret ?_
   refine ae_ret hB (I n) (by kernel_rfl) (.inl (by refine congrArg I ?_; omega)) rfl (fun _ => trivial)


/-- The direction of a difference that is not zero. -/
def dirI (dx dy : Int) : Int :=
  if ((dx.natAbs : Int) + (dy.natAbs : Int)) * ((dx.natAbs : Int) + (dy.natAbs : Int)) ≤ (2 * (dx.natAbs : Int)) * (dx.natAbs : Int) then (if 0 < dx then 0 else 4)
  else if ((dx.natAbs : Int) + (dy.natAbs : Int)) * ((dx.natAbs : Int) + (dy.natAbs : Int)) ≤ (2 * (dy.natAbs : Int)) * (dy.natAbs : Int) then (if 0 < dy then 2 else 6)
  else if 0 < dx ∧ 0 < dy then 1 else if dx < 0 ∧ 0 < dy then 3 else if dx < 0 then 5 else 7
theorem dirI_bd (dx dy : Int) : 0 ≤ dirI dx dy ∧ dirI dx dy ≤ 7 := by unfold dirI; (repeat' split) <;> omega
theorem two_sq {x : Int} (h : 0 ≤ x) (h2 : x ≤ 4095) : 0 ≤ (2 * x) * x ∧ (2 * x) * x ≤ 33538050 := by
  have := sq_bd (x := x) (B := 4095) (by omega) h2
  rw [Int.mul_assoc]; omega
theorem dir_zero {dx dy : Int} (h : dx = 0) : ((dx.natAbs : Int) + (dy.natAbs : Int)) * ((dx.natAbs : Int) + (dy.natAbs : Int)) ≤ (2 * (dy.natAbs : Int)) * (dy.natAbs : Int) := by
  subst h
  have := sq_bd (x := (dy.natAbs : Int)) (B := (dy.natAbs : Int)) (by omega) (by omega)
  rw [Int.mul_assoc]; simp at this ⊢; omega

-- impl.directionOf
theorem directionOf_ok (dx : Int) (dy : Int) (hd : (-4095 ≤ dx ∧ dx ≤ 4095) ∧ -4095 ≤ dy ∧ dy ≤ 4095) : Con Tryz.prog 111 [I dx, I dy] true (I (dirI dx dy)) := by
  have hx2 := two_sq (x := (dx.natAbs : Int)) (by omega) (by omega)
  have hy2 := two_sq (x := (dy.natAbs : Int)) (by omega) (by omega)
  have hs2 := sq_bd (x := (dx.natAbs : Int) + (dy.natAbs : Int)) (B := 8190) (by omega) (by omega)
  have hz := @dir_zero dx dy
  refine fn_ok (fn := Tryz.f111) (nt := 68) Tryz.func111 rfl rfl rfl rfl (by simp [taggedL, tagged]) fun B hB => ?_
  refine aw_seq ?_
  refine aw_reg [] [0, 1] [] [I dx, I dy] [] [] (by kernel_rfl) hB trivial ?_
  refine ae_then ?_
  refine aw_seq ?_
  refine aw_reg [(1, .call [(true, I dx)] true (I (dx.natAbs : Int))), (3, .call [(true, I dy)] true (I (dy.natAbs : Int)))] [0, 1, 5, 6] [] [I dx, I dy, I (dx.natAbs : Int), I (dy.natAbs : Int)] [] [Con Tryz.prog 67 [I dx] true (I (dx.natAbs : Int)) ∧ ((I dx : AV) = I dx) ∧ True, Con Tryz.prog 67 [I dy] true (I (dy.natAbs : Int)) ∧ ((I dy : AV) = I dy) ∧ True] (by kernel_rfl) hB ⟨⟨(abs_ok dx (by omega)), rfl, trivial⟩, ⟨(abs_ok dy (by omega)), rfl, trivial⟩, trivial⟩ ?_
  refine ae_then ?_
  refine aw_seq ?_
  refine aw_reg [] [0, 1, 5, 6, 7] [] [I dx, I dy, I (dx.natAbs : Int), I (dy.natAbs : Int), I (((dx.natAbs : Int) + (dy.natAbs : Int)) * ((dx.natAbs : Int) + (dy.natAbs : Int)))] [] [inR .i64 ((dx.natAbs : Int) + (dy.natAbs : Int)), inR .i64 ((dx.natAbs : Int) + (dy.natAbs : Int)), inR .i64 (((dx.natAbs : Int) + (dy.natAbs : Int)) * ((dx.natAbs : Int) + (dy.natAbs : Int)))] (by kernel_rfl) hB ⟨(inR_i64 (by omega) (by omega)), (inR_i64 (by omega) (by omega)), (inR_i64 (by omega) (by omega)), trivial⟩ ?_
  refine ae_then ?_
  refine aw_seq ?_
  refine aw_block ?_
  refine aw_seq ?_
  by_cases h1 : (((dx.natAbs : Int) + (dy.natAbs : Int)) * ((dx.natAbs : Int) + (dy.natAbs : Int))) ≤ ((2 * (dx.natAbs : Int)) * (dx.natAbs : Int))
  ·by_cases h2 : 0 < dx
   ·refine aw_reg [(5, .dec true), (8, .dec true)] [0, 1, 5, 6, 7, 19] [] [I dx, I dy, I (dx.natAbs : Int), I (dy.natAbs : Int), I (((dx.natAbs : Int) + (dy.natAbs : Int)) * ((dx.natAbs : Int) + (dy.natAbs : Int))), Bv true] [] [inR .i64 (2 * (dx.natAbs : Int)), inR .i64 ((2 * (dx.natAbs : Int)) * (dx.natAbs : Int)), (((dx.natAbs : Int) + (dy.natAbs : Int)) * ((dx.natAbs : Int) + (dy.natAbs : Int))) ≤ ((2 * (dx.natAbs : Int)) * (dx.natAbs : Int)), 0 < dx] (by kernel_rfl) hB ⟨(inR_i64 (by omega) (by omega)), (inR_i64 (by omega) (by omega)), h1, h2, trivial⟩ ?_
    refine ae_then ?_
    refine aw_true rfl ?_
    refine aw_seq ?_
    refine aw_reg [] [4] [] [I 0] [] [] (by kernel_rfl) hB trivial ?_
    refine ae_then ?_
    refine aw_ret ?_
    refine ae_ret_block (ae_ret_then ?_)
    refine ae_ret hB (I 0) (by kernel_rfl) (.inl (by refine congrArg I ?_; unfold dirI; (repeat' split) <;> first | rfl | omega)) rfl (fun _ => trivial)
   ·refine aw_reg [(5, .dec true), (8, .dec false)] [0, 1, 5, 6, 7, 19] [] [I dx, I dy, I (dx.natAbs : Int), I (dy.natAbs : Int), I (((dx.natAbs : Int) + (dy.natAbs : Int)) * ((dx.natAbs : Int) + (dy.natAbs : Int))), Bv false] [] [inR .i64 (2 * (dx.natAbs : Int)), inR .i64 ((2 * (dx.natAbs : Int)) * (dx.natAbs : Int)), (((dx.natAbs : Int) + (dy.natAbs : Int)) * ((dx.natAbs : Int) + (dy.natAbs : Int))) ≤ ((2 * (dx.natAbs : Int)) * (dx.natAbs : Int)), ¬ (0 < dx)] (by kernel_rfl) hB ⟨(inR_i64 (by omega) (by omega)), (inR_i64 (by omega) (by omega)), h1, h2, trivial⟩ ?_
    refine ae_then ?_
    refine aw_false rfl ?_
    refine aw_seq ?_
    refine aw_reg [(5, .dec true)] [0, 1, 6, 7, 30] [] [I dx, I dy, I (dy.natAbs : Int), I (((dx.natAbs : Int) + (dy.natAbs : Int)) * ((dx.natAbs : Int) + (dy.natAbs : Int))), Bv true] [] [inR .i64 (2 * (dx.natAbs : Int)), inR .i64 ((2 * (dx.natAbs : Int)) * (dx.natAbs : Int)), (((dx.natAbs : Int) + (dy.natAbs : Int)) * ((dx.natAbs : Int) + (dy.natAbs : Int))) ≤ ((2 * (dx.natAbs : Int)) * (dx.natAbs : Int))] (by kernel_rfl) hB ⟨(inR_i64 (by omega) (by omega)), (inR_i64 (by omega) (by omega)), h1, trivial⟩ ?_
    refine ae_then ?_
    refine aw_true rfl ?_
    refine aw_seq ?_
    refine aw_reg [] [4] [] [I 4] [] [] (by kernel_rfl) hB trivial ?_
    refine ae_then ?_
    refine aw_ret ?_
    refine ae_ret_block (ae_ret_then ?_)
    refine ae_ret hB (I 4) (by kernel_rfl) (.inl (by refine congrArg I ?_; unfold dirI; (repeat' split) <;> first | rfl | omega)) rfl (fun _ => trivial)
  ·refine aw_reg [(5, .dec false)] [0, 1, 5, 6, 7, 19] [] [I dx, I dy, I (dx.natAbs : Int), I (dy.natAbs : Int), I (((dx.natAbs : Int) + (dy.natAbs : Int)) * ((dx.natAbs : Int) + (dy.natAbs : Int))), Bv false] [] [inR .i64 (2 * (dx.natAbs : Int)), inR .i64 ((2 * (dx.natAbs : Int)) * (dx.natAbs : Int)), ¬ ((((dx.natAbs : Int) + (dy.natAbs : Int)) * ((dx.natAbs : Int) + (dy.natAbs : Int))) ≤ ((2 * (dx.natAbs : Int)) * (dx.natAbs : Int)))] (by kernel_rfl) hB ⟨(inR_i64 (by omega) (by omega)), (inR_i64 (by omega) (by omega)), h1, trivial⟩ ?_
   refine ae_then ?_
   refine aw_false rfl ?_
   refine aw_seq ?_
   refine aw_reg [(5, .dec false)] [0, 1, 6, 7, 30] [] [I dx, I dy, I (dy.natAbs : Int), I (((dx.natAbs : Int) + (dy.natAbs : Int)) * ((dx.natAbs : Int) + (dy.natAbs : Int))), Bv false] [] [inR .i64 (2 * (dx.natAbs : Int)), inR .i64 ((2 * (dx.natAbs : Int)) * (dx.natAbs : Int)), ¬ ((((dx.natAbs : Int) + (dy.natAbs : Int)) * ((dx.natAbs : Int) + (dy.natAbs : Int))) ≤ ((2 * (dx.natAbs : Int)) * (dx.natAbs : Int)))] (by kernel_rfl) hB ⟨(inR_i64 (by omega) (by omega)), (inR_i64 (by omega) (by omega)), h1, trivial⟩ ?_
   refine ae_then ?_
   refine aw_false rfl ?_
   refine aw_seq ?_
   by_cases h3 : (((dx.natAbs : Int) + (dy.natAbs : Int)) * ((dx.natAbs : Int) + (dy.natAbs : Int))) ≤ ((2 * (dy.natAbs : Int)) * (dy.natAbs : Int))
   ·by_cases h4 : 0 < dy
    ·refine aw_reg [(5, .dec true), (8, .dec true)] [0, 1, 6, 7, 37] [] [I dx, I dy, I (dy.natAbs : Int), I (((dx.natAbs : Int) + (dy.natAbs : Int)) * ((dx.natAbs : Int) + (dy.natAbs : Int))), Bv true] [] [inR .i64 (2 * (dy.natAbs : Int)), inR .i64 ((2 * (dy.natAbs : Int)) * (dy.natAbs : Int)), (((dx.natAbs : Int) + (dy.natAbs : Int)) * ((dx.natAbs : Int) + (dy.natAbs : Int))) ≤ ((2 * (dy.natAbs : Int)) * (dy.natAbs : Int)), 0 < dy] (by kernel_rfl) hB ⟨(inR_i64 (by omega) (by omega)), (inR_i64 (by omega) (by omega)), h3, h4, trivial⟩ ?_
     refine ae_then ?_
     refine aw_true rfl ?_
     refine aw_seq ?_
     refine aw_reg [] [4] [] [I 2] [] [] (by kernel_rfl) hB trivial ?_
     refine ae_then ?_
     refine aw_ret ?_
     refine ae_ret_block (ae_ret_then ?_)
     refine ae_ret hB (I 2) (by kernel_rfl) (.inl (by refine congrArg I ?_; unfold dirI; (repeat' split) <;> first | rfl | omega)) rfl (fun _ => trivial)
    ·refine aw_reg [(5, .dec true), (8, .dec false)] [0, 1, 6, 7, 37] [] [I dx, I dy, I (dy.natAbs : Int), I (((dx.natAbs : Int) + (dy.natAbs : Int)) * ((dx.natAbs : Int) + (dy.natAbs : Int))), Bv false] [] [inR .i64 (2 * (dy.natAbs : Int)), inR .i64 ((2 * (dy.natAbs : Int)) * (dy.natAbs : Int)), (((dx.natAbs : Int) + (dy.natAbs : Int)) * ((dx.natAbs : Int) + (dy.natAbs : Int))) ≤ ((2 * (dy.natAbs : Int)) * (dy.natAbs : Int)), ¬ (0 < dy)] (by kernel_rfl) hB ⟨(inR_i64 (by omega) (by omega)), (inR_i64 (by omega) (by omega)), h3, h4, trivial⟩ ?_
     refine ae_then ?_
     refine aw_false rfl ?_
     refine aw_seq ?_
     refine aw_reg [(5, .dec true)] [0, 1, 48] [] [I dx, I dy, Bv true] [] [inR .i64 (2 * (dy.natAbs : Int)), inR .i64 ((2 * (dy.natAbs : Int)) * (dy.natAbs : Int)), (((dx.natAbs : Int) + (dy.natAbs : Int)) * ((dx.natAbs : Int) + (dy.natAbs : Int))) ≤ ((2 * (dy.natAbs : Int)) * (dy.natAbs : Int))] (by kernel_rfl) hB ⟨(inR_i64 (by omega) (by omega)), (inR_i64 (by omega) (by omega)), h3, trivial⟩ ?_
     refine ae_then ?_
     refine aw_true rfl ?_
     refine aw_seq ?_
     refine aw_reg [] [4] [] [I 6] [] [] (by kernel_rfl) hB trivial ?_
     refine ae_then ?_
     refine aw_ret ?_
     refine ae_ret_block (ae_ret_then ?_)
     refine ae_ret hB (I 6) (by kernel_rfl) (.inl (by refine congrArg I ?_; unfold dirI; (repeat' split) <;> first | rfl | omega)) rfl (fun _ => trivial)
   ·refine aw_reg [(5, .dec false)] [0, 1, 6, 7, 37] [] [I dx, I dy, I (dy.natAbs : Int), I (((dx.natAbs : Int) + (dy.natAbs : Int)) * ((dx.natAbs : Int) + (dy.natAbs : Int))), Bv false] [] [inR .i64 (2 * (dy.natAbs : Int)), inR .i64 ((2 * (dy.natAbs : Int)) * (dy.natAbs : Int)), ¬ ((((dx.natAbs : Int) + (dy.natAbs : Int)) * ((dx.natAbs : Int) + (dy.natAbs : Int))) ≤ ((2 * (dy.natAbs : Int)) * (dy.natAbs : Int)))] (by kernel_rfl) hB ⟨(inR_i64 (by omega) (by omega)), (inR_i64 (by omega) (by omega)), h3, trivial⟩ ?_
    refine ae_then ?_
    refine aw_false rfl ?_
    refine aw_seq ?_
    refine aw_reg [(5, .dec false)] [0, 1, 48] [] [I dx, I dy, Bv false] [] [inR .i64 (2 * (dy.natAbs : Int)), inR .i64 ((2 * (dy.natAbs : Int)) * (dy.natAbs : Int)), ¬ ((((dx.natAbs : Int) + (dy.natAbs : Int)) * ((dx.natAbs : Int) + (dy.natAbs : Int))) ≤ ((2 * (dy.natAbs : Int)) * (dy.natAbs : Int)))] (by kernel_rfl) hB ⟨(inR_i64 (by omega) (by omega)), (inR_i64 (by omega) (by omega)), h3, trivial⟩ ?_
    refine ae_then ?_
    refine aw_false rfl ?_
    refine aw_seq ?_
    by_cases h5 : 0 < dx
    ·by_cases h6 : 0 < dy
     ·refine aw_reg [(1, .dec true), (4, .dec true)] [0, 1, 55] [] [I dx, I dy, Bv true] [] [0 < dx, 0 < dy] (by kernel_rfl) hB ⟨h5, h6, trivial⟩ ?_
      refine ae_then ?_
      refine aw_true rfl ?_
      refine aw_seq ?_
      refine aw_reg [] [4] [] [I 1] [] [] (by kernel_rfl) hB trivial ?_
      refine ae_then ?_
      refine aw_ret ?_
      refine ae_ret_block (ae_ret_then ?_)
      refine ae_ret hB (I 1) (by kernel_rfl) (.inl (by refine congrArg I ?_; unfold dirI; (repeat' split) <;> first | rfl | omega)) rfl (fun _ => trivial)
     ·refine aw_reg [(1, .dec true), (4, .dec false)] [0, 1, 55] [] [I dx, I dy, Bv false] [] [0 < dx, ¬ (0 < dy)] (by kernel_rfl) hB ⟨h5, h6, trivial⟩ ?_
      refine ae_then ?_
      refine aw_false rfl ?_
      refine aw_seq ?_
      refine aw_reg [(1, .dec false)] [0, 62] [] [I dx, Bv false] [] [¬ (0 < dy)] (by kernel_rfl) hB ⟨h6, trivial⟩ ?_
      refine ae_then ?_
      refine aw_false rfl ?_
      refine aw_seq ?_
      by_cases h7 : dx < 0
      ·refine aw_reg [(1, .dec true)] [65] [] [Bv true] [] [dx < 0] (by kernel_rfl) hB ⟨h7, trivial⟩ ?_
       refine ae_then ?_
       refine aw_true rfl ?_
       refine aw_seq ?_
       refine aw_reg [] [4] [] [I 5] [] [] (by kernel_rfl) hB trivial ?_
       refine ae_then ?_
       refine aw_ret ?_
       refine ae_ret_block (ae_ret_then ?_)
       refine ae_ret hB (I 5) (by kernel_rfl) (.inl (by refine congrArg I ?_; unfold dirI; (repeat' split) <;> first | rfl | omega)) rfl (fun _ => trivial)
      ·refine aw_reg [(1, .dec false)] [65] [] [Bv false] [] [¬ (dx < 0)] (by kernel_rfl) hB ⟨h7, trivial⟩ ?_
       refine ae_then ?_
       refine aw_false rfl ?_
       refine aw_skip ?_
       refine ae_block 0 ?_
       refine ae_then ?_
       refine aw_seq ?_
       refine aw_reg [] [4] [] [I 7] [] [] (by kernel_rfl) hB trivial ?_
       refine ae_then ?_
       refine aw_ret ?_
       refine ae_ret hB (I 7) (by kernel_rfl) (.inl (by refine congrArg I ?_; unfold dirI; (repeat' split) <;> first | rfl | omega)) rfl (fun _ => trivial)
    ·refine aw_reg [(1, .dec false)] [0, 1, 55] [] [I dx, I dy, Bv false] [] [¬ (0 < dx)] (by kernel_rfl) hB ⟨h5, trivial⟩ ?_
     refine ae_then ?_
     refine aw_false rfl ?_
     refine aw_seq ?_
     by_cases h8 : 0 < dy
     ·refine aw_reg [(1, .dec true)] [0, 62] [] [I dx, Bv true] [] [0 < dy] (by kernel_rfl) hB ⟨h8, trivial⟩ ?_
      refine ae_then ?_
      refine aw_true rfl ?_
      refine aw_seq ?_
      refine aw_reg [] [4] [] [I 3] [] [] (by kernel_rfl) hB trivial ?_
      refine ae_then ?_
      refine aw_ret ?_
      refine ae_ret_block (ae_ret_then ?_)
      refine ae_ret hB (I 3) (by kernel_rfl) (.inl (by refine congrArg I ?_; unfold dirI; (repeat' split) <;> first | rfl | omega)) rfl (fun _ => trivial)
     ·refine aw_reg [(1, .dec false)] [0, 62] [] [I dx, Bv false] [] [¬ (0 < dy)] (by kernel_rfl) hB ⟨h8, trivial⟩ ?_
      refine ae_then ?_
      refine aw_false rfl ?_
      refine aw_seq ?_
      by_cases h9 : dx < 0
      ·refine aw_reg [(1, .dec true)] [65] [] [Bv true] [] [dx < 0] (by kernel_rfl) hB ⟨h9, trivial⟩ ?_
       refine ae_then ?_
       refine aw_true rfl ?_
       refine aw_seq ?_
       refine aw_reg [] [4] [] [I 5] [] [] (by kernel_rfl) hB trivial ?_
       refine ae_then ?_
       refine aw_ret ?_
       refine ae_ret_block (ae_ret_then ?_)
       refine ae_ret hB (I 5) (by kernel_rfl) (.inl (by refine congrArg I ?_; unfold dirI; (repeat' split) <;> first | rfl | omega)) rfl (fun _ => trivial)
      ·refine aw_reg [(1, .dec false)] [65] [] [Bv false] [] [¬ (dx < 0)] (by kernel_rfl) hB ⟨h9, trivial⟩ ?_
       refine ae_then ?_
       refine aw_false rfl ?_
       refine aw_skip ?_
       refine ae_block 0 ?_
       refine ae_then ?_
       refine aw_seq ?_
       refine aw_reg [] [4] [] [I 7] [] [] (by kernel_rfl) hB trivial ?_
       refine ae_then ?_
       refine aw_ret ?_
       refine ae_ret hB (I 7) (by kernel_rfl) (.inl (by refine congrArg I ?_; unfold dirI; (repeat' split) <;> first | rfl | omega)) rfl (fun _ => trivial)


/-- The directions of the segments that have a length and end ahead of the k-th point. -/
def dirsL (xs : List Point) : Nat → List Int
  | 0 => []
  | k + 1 => if k = 0 ∨ ((at_ xs k).X - (at_ xs (k - 1)).X = 0 ∧ (at_ xs k).Y - (at_ xs (k - 1)).Y = 0) then dirsL xs k
    else dirsL xs k ++ [dirI ((at_ xs k).X - (at_ xs (k - 1)).X) ((at_ xs k).Y - (at_ xs (k - 1)).Y)]
theorem dirsL_len (xs : List Point) : ∀ k : Nat, (dirsL xs k).length ≤ k
  | 0 => Nat.le_refl _
  | k + 1 => by
    have := dirsL_len xs k
    unfold dirsL
    split
    · omega
    · simp; omega
theorem dirsL_one (xs : List Point) : dirsL xs 1 = [] := by simp [dirsL]
theorem dirsL_same {xs : List Point} {i : Int} (h : 1 ≤ i) (hx : (at_ xs i.toNat).X - (at_ xs (i - 1).toNat).X = 0) (hy : (at_ xs i.toNat).Y - (at_ xs (i - 1).toNat).Y = 0) : dirsL xs (i + 1).toNat = dirsL xs i.toNat := by
  have e1 : (i + 1).toNat = i.toNat + 1 := by omega
  have e2 : (i - 1).toNat = i.toNat - 1 := by omega
  rw [e2] at hx hy
  rw [e1]
  conv => lhs; unfold dirsL
  rw [if_pos (.inr ⟨hx, hy⟩)]
theorem dirsL_more {xs : List Point} {i : Int} (h : 1 ≤ i) (hn : ¬ ((at_ xs i.toNat).X - (at_ xs (i - 1).toNat).X = 0 ∧ (at_ xs i.toNat).Y - (at_ xs (i - 1).toNat).Y = 0)) :
    dirsL xs (i + 1).toNat = dirsL xs i.toNat ++ [dirI ((at_ xs i.toNat).X - (at_ xs (i - 1).toNat).X) ((at_ xs i.toNat).Y - (at_ xs (i - 1).toNat).Y)] := by
  have e1 : (i + 1).toNat = i.toNat + 1 := by omega
  have e2 : (i - 1).toNat = i.toNat - 1 := by omega
  rw [e2] at hn ⊢
  rw [e1]
  conv => lhs; unfold dirsL
  rw [if_neg (by rintro (h' | h'); omega; exact hn h')]

-- impl.directionsOf
theorem directionsOf_ok (s : Stroke) (ok : okStroke' s = true) : Con Tryz.prog 92 [.agg [slPoint false s.Points]] true (slI true (dirsL s.Points s.Points.length)) := by
  have hln := okS_len ok
  refine fn_ok (fn := Tryz.f92) (nt := 52) Tryz.func92 rfl rfl rfl rfl (by simp [taggedL, tagged, tagPoint]) fun B hB => ?_
  refine aw_lens (x := .agg [slPoint false s.Points]) 0 rfl (fun len_s => ?_)
  simp [LenOK, LenL, cPoint, fPoint, slPoint] at len_s
  refine aw_seq ?_
  refine aw_reg [(0, .new 1)] [1] [1] [.ref 1 0] [some (.box [slPoint false s.Points])] [] (by kernel_rfl) hB trivial ?_
  refine ae_then ?_
  refine aw_seq ?_
  refine aw_reg [] [1, 3] [1] [.ref 1 0, nilA] [some (.box [slPoint false s.Points])] [] (by kernel_rfl) hB trivial ?_
  refine ae_then ?_
  refine aw_seq ?_
  refine aw_seq ?_
  refine aw_reg [] [1, 3, 4] [1] [.ref 1 0, nilA, I 1] [some (.box [slPoint false s.Points])] [] (by kernel_rfl) hB trivial ?_
  refine ae_then ?_
  refine aw_block ?_
  refine aw_nil hB 3 703 1 (fun _ => []) (by kernel_rfl) ?_
  refine aw_weak hB [] (T := [(1, .ref 1 0), (3, .arr 703), (4, I 1)]) (O := [(1, .box [slPoint false s.Points]), (703, .arr 1 (([] : List Int).length) (fI ([] : List Int)))]) rfl (⟨.inl rfl, .inl rfl, .inl rfl, trivial⟩) (⟨.inl rfl, .inr ⟨rfl, (by first | rfl | (simp; done) | (simp; omega) | omega), fun i hi => absurd hi (Nat.not_lt_zero _)⟩, trivial⟩) ?_
  refine aw_loop (fun gn gσ => ∃ (list : List Int) (k : Int), gn = ((s.Points.length : Int) - k).toNat ∧ (1 ≤ k ∧ (k ≤ (s.Points.length : Int) ∨ k = 1)) ∧ (list = dirsL s.Points k.toNat) ∧ gσ = mkS [(1, .ref 1 0), (3, .arr 703), (4, I k)] [(1, .box [slPoint false s.Points]), (703, .arr 1 list.length (fI list))]) (((s.Points.length : Int) - 1).toNat) ⟨([] : List Int), 1, rfl, (by omega), (by exact (dirsL_one _).symm), rfl⟩ (fun gn gσ hI => ?_)
  obtain ⟨list, k, rfl, hi0, hd0, rfl⟩ := hI
  refine aw_seq ?_
  refine aw_seq ?_
  by_cases h1 : k < (s.Points.length : Int)
  ·have hi : k.toNat < s.Points.length := by omega
   have hi2 : (k - 1).toNat < s.Points.length := by omega
   have hp1 := okP_iff.1 (okS_at ok hi2)
   have hp2 := okP_iff.1 (okS_at ok hi)
   have hbd := dirI_bd ((at_ s.Points k.toNat).X - (at_ s.Points (k - 1).toNat).X) ((at_ s.Points k.toNat).Y - (at_ s.Points (k - 1).toNat).Y)
   have hdl : list.length ≤ k.toNat := by rw [hd0]; exact dirsL_len _ _
   refine aw_reg [(4, .dec true)] [1, 3, 4, 11] [1, 703] [.ref 1 0, .arr 703, I k, Bv true] [some (.box [slPoint false s.Points]), some (.arr 1 list.length (fI list))] [k < (s.Points.length : Int)] (by kernel_rfl) hB ⟨h1, trivial⟩ ?_
   refine ae_then ?_
   refine aw_true rfl ?_
   refine aw_skip ?_
   refine ae_then ?_
   refine aw_seq ?_
   refine aw_block ?_
   refine aw_seq ?_
   refine aw_reg [(11, .new 5), (12, .new 6)] [1, 3, 4, 5, 6] [1, 5, 6, 703] [.ref 1 0, .arr 703, I k, .ref 5 0, .ref 6 0] [some (.box [slPoint false s.Points]), some (bxPoint (at_ s.Points ((k - 1).toNat))), some (bxPoint (at_ s.Points k.toNat)), some (.arr 1 list.length (fI list))] [inR .i64 (k - 1), (0 : Int) ≤ (k - 1) ∧ (k - 1) < (s.Points.length : Int), (0 : Int) ≤ k ∧ k < (s.Points.length : Int)] (by kernel_rfl) hB ⟨(inR_i64 (by omega) (by omega)), ⟨(by omega), (by omega)⟩, ⟨(by omega), (by omega)⟩, trivial⟩ ?_
   refine ae_then ?_
   refine aw_seq ?_
   by_cases h2 : ((at_ s.Points ((k - 1).toNat)).X) = ((at_ s.Points k.toNat).X)
   ·by_cases h3 : ((at_ s.Points ((k - 1).toNat)).Y) = ((at_ s.Points k.toNat).Y)
    ·refine aw_reg [(4, .dec false), (10, .dec false)] [1, 3, 4, 5, 6, 36] [1, 5, 6, 703] [.ref 1 0, .arr 703, I k, .ref 5 0, .ref 6 0, Bv false] [some (.box [slPoint false s.Points]), some (bxPoint (at_ s.Points ((k - 1).toNat))), some (bxPoint (at_ s.Points k.toNat)), some (.arr 1 list.length (fI list))] [¬ (((at_ s.Points ((k - 1).toNat)).X) ≠ ((at_ s.Points k.toNat).X)), ¬ (((at_ s.Points ((k - 1).toNat)).Y) ≠ ((at_ s.Points k.toNat).Y))] (by kernel_rfl) hB ⟨(fun hq => hq h2), (fun hq => hq h3), trivial⟩ ?_
     refine ae_then ?_
     refine aw_false rfl ?_
     refine aw_skip ?_
     refine ae_block 1 ?_
     refine ae_then ?_
     refine aw_reg [] [1, 3, 4] [1, 703] [.ref 1 0, .arr 703, I (k + 1)] [some (.box [slPoint false s.Points]), some (.arr 1 list.length (fI list))] [inR .i64 (k + 1)] (by kernel_rfl) hB ⟨(inR_i64 (by omega) (by omega)), trivial⟩ ?_
     exact ae_again _ (by omega) ⟨list, (k + 1), rfl, (by omega), (by rw [hd0]; first | (exact (dirsL_same hi0.1 (by omega) (by omega)).symm) | (exact (dirsL_more hi0.1 (by omega)).symm)), rfl⟩
    ·refine aw_reg [(4, .dec false), (10, .dec true)] [1, 3, 4, 5, 6, 36] [1, 5, 6, 703] [.ref 1 0, .arr 703, I k, .ref 5 0, .ref 6 0, Bv true] [some (.box [slPoint false s.Points]), some (bxPoint (at_ s.Points ((k - 1).toNat))), some (bxPoint (at_ s.Points k.toNat)), some (.arr 1 list.length (fI list))] [¬ (((at_ s.Points ((k - 1).toNat)).X) ≠ ((at_ s.Points k.toNat).X)), ((at_ s.Points ((k - 1).toNat)).Y) ≠ ((at_ s.Points k.toNat).Y)] (by kernel_rfl) hB ⟨(fun hq => hq h2), h3, trivial⟩ ?_
     refine ae_then ?_
     refine aw_true rfl ?_
     refine aw_reg [(11, .call [(true, I (((at_ s.Points k.toNat).X) - ((at_ s.Points ((k - 1).toNat)).X))), (true, I (((at_ s.Points k.toNat).Y) - ((at_ s.Points ((k - 1).toNat)).Y)))] true (I (dirI (((at_ s.Points k.toNat).X) - ((at_ s.Points ((k - 1).toNat)).X)) (((at_ s.Points k.toNat).Y) - ((at_ s.Points ((k - 1).toNat)).Y))))), (12, .new 49), (13, .new 50)] [1, 3, 4] [1, 50] [.ref 1 0, .arr 50, I k] [some (.box [slPoint false s.Points]), some (.arr 1 (list.length + 1) (catF list.length (fI list) (litF [I (dirI (((at_ s.Points k.toNat).X) - ((at_ s.Points ((k - 1).toNat)).X)) (((at_ s.Points k.toNat).Y) - ((at_ s.Points ((k - 1).toNat)).Y)))] 1)))] [inR .i64 (((at_ s.Points k.toNat).X) - ((at_ s.Points ((k - 1).toNat)).X)), inR .i64 (((at_ s.Points k.toNat).Y) - ((at_ s.Points ((k - 1).toNat)).Y)), Con Tryz.prog 111 [I (((at_ s.Points k.toNat).X) - ((at_ s.Points ((k - 1).toNat)).X)), I (((at_ s.Points k.toNat).Y) - ((at_ s.Points ((k - 1).toNat)).Y))] true (I (dirI (((at_ s.Points k.toNat).X) - ((at_ s.Points ((k - 1).toNat)).X)) (((at_ s.Points k.toNat).Y) - ((at_ s.Points ((k - 1).toNat)).Y)))) ∧ ((I (((at_ s.Points k.toNat).X) - ((at_ s.Points ((k - 1).toNat)).X)) : AV) = I (((at_ s.Points k.toNat).X) - ((at_ s.Points ((k - 1).toNat)).X))) ∧ ((I (((at_ s.Points k.toNat).Y) - ((at_ s.Points ((k - 1).toNat)).Y)) : AV) = I (((at_ s.Points k.toNat).Y) - ((at_ s.Points ((k - 1).toNat)).Y))) ∧ True, (list.length + 1) * 8 ≤ 140737488355328] (by kernel_rfl) hB ⟨(inR_i64 (by omega) (by omega)), (inR_i64 (by omega) (by omega)), ⟨(directionOf_ok (((at_ s.Points k.toNat).X) - ((at_ s.Points ((k - 1).toNat)).X)) (((at_ s.Points k.toNat).Y) - ((at_ s.Points ((k - 1).toNat)).Y)) (by omega)), rfl, rfl, trivial⟩, (by omega), trivial⟩ ?_
     refine ae_block 1 ?_
     refine ae_then ?_
     refine aw_reg [] [1, 3, 4] [1, 50] [.ref 1 0, .arr 50, I (k + 1)] [some (.box [slPoint false s.Points]), some (.arr 1 (list.length + 1) (catF list.length (fI list) (litF [I (dirI (((at_ s.Points k.toNat).X) - ((at_ s.Points ((k - 1).toNat)).X)) (((at_ s.Points k.toNat).Y) - ((at_ s.Points ((k - 1).toNat)).Y)))] 1)))] [inR .i64 (k + 1)] (by kernel_rfl) hB ⟨(inR_i64 (by omega) (by omega)), trivial⟩ ?_
     refine ae_weak hB [(703, 50)] (T := [(1, .ref 1 0), (3, .arr 703), (4, I (k + 1))]) (O := [(1, .box [slPoint false s.Points]), (703, .arr 1 ((list ++ [(dirI (((at_ s.Points k.toNat).X) - ((at_ s.Points ((k - 1).toNat)).X)) (((at_ s.Points k.toNat).Y) - ((at_ s.Points ((k - 1).toNat)).Y)))]).length) (fI (list ++ [(dirI (((at_ s.Points k.toNat).X) - ((at_ s.Points ((k - 1).toNat)).X)) (((at_ s.Points k.toNat).Y) - ((at_ s.Points ((k - 1).toNat)).Y)))])))]) rfl (⟨.inl rfl, .inl rfl, .inl rfl, trivial⟩) (⟨.inl rfl, .inr ⟨rfl, (by first | rfl | (simp; done) | (simp; omega) | omega), fun i hi => .inl (cat_snoc (enc := cI) (xs := list) rfl i hi)⟩, trivial⟩) (ae_again _ (by omega) ⟨(list ++ [(dirI (((at_ s.Points k.toNat).X) - ((at_ s.Points ((k - 1).toNat)).X)) (((at_ s.Points k.toNat).Y) - ((at_ s.Points ((k - 1).toNat)).Y)))]), (k + 1), rfl, (by omega), (by rw [hd0]; first | (exact (dirsL_same hi0.1 (by omega) (by omega)).symm) | (exact (dirsL_more hi0.1 (by omega)).symm)), rfl⟩)
   ·refine aw_reg [(4, .dec true)] [1, 3, 4, 5, 6, 36] [1, 5, 6, 703] [.ref 1 0, .arr 703, I k, .ref 5 0, .ref 6 0, Bv true] [some (.box [slPoint false s.Points]), some (bxPoint (at_ s.Points ((k - 1).toNat))), some (bxPoint (at_ s.Points k.toNat)), some (.arr 1 list.length (fI list))] [((at_ s.Points ((k - 1).toNat)).X) ≠ ((at_ s.Points k.toNat).X)] (by kernel_rfl) hB ⟨h2, trivial⟩ ?_
    refine ae_then ?_
    refine aw_true rfl ?_
    refine aw_reg [(11, .call [(true, I (((at_ s.Points k.toNat).X) - ((at_ s.Points ((k - 1).toNat)).X))), (true, I (((at_ s.Points k.toNat).Y) - ((at_ s.Points ((k - 1).toNat)).Y)))] true (I (dirI (((at_ s.Points k.toNat).X) - ((at_ s.Points ((k - 1).toNat)).X)) (((at_ s.Points k.toNat).Y) - ((at_ s.Points ((k - 1).toNat)).Y))))), (12, .new 49), (13, .new 50)] [1, 3, 4] [1, 50] [.ref 1 0, .arr 50, I k] [some (.box [slPoint false s.Points]), some (.arr 1 (list.length + 1) (catF list.length (fI list) (litF [I (dirI (((at_ s.Points k.toNat).X) - ((at_ s.Points ((k - 1).toNat)).X)) (((at_ s.Points k.toNat).Y) - ((at_ s.Points ((k - 1).toNat)).Y)))] 1)))] [inR .i64 (((at_ s.Points k.toNat).X) - ((at_ s.Points ((k - 1).toNat)).X)), inR .i64 (((at_ s.Points k.toNat).Y) - ((at_ s.Points ((k - 1).toNat)).Y)), Con Tryz.prog 111 [I (((at_ s.Points k.toNat).X) - ((at_ s.Points ((k - 1).toNat)).X)), I (((at_ s.Points k.toNat).Y) - ((at_ s.Points ((k - 1).toNat)).Y))] true (I (dirI (((at_ s.Points k.toNat).X) - ((at_ s.Points ((k - 1).toNat)).X)) (((at_ s.Points k.toNat).Y) - ((at_ s.Points ((k - 1).toNat)).Y)))) ∧ ((I (((at_ s.Points k.toNat).X) - ((at_ s.Points ((k - 1).toNat)).X)) : AV) = I (((at_ s.Points k.toNat).X) - ((at_ s.Points ((k - 1).toNat)).X))) ∧ ((I (((at_ s.Points k.toNat).Y) - ((at_ s.Points ((k - 1).toNat)).Y)) : AV) = I (((at_ s.Points k.toNat).Y) - ((at_ s.Points ((k - 1).toNat)).Y))) ∧ True, (list.length + 1) * 8 ≤ 140737488355328] (by kernel_rfl) hB ⟨(inR_i64 (by omega) (by omega)), (inR_i64 (by omega) (by omega)), ⟨(directionOf_ok (((at_ s.Points k.toNat).X) - ((at_ s.Points ((k - 1).toNat)).X)) (((at_ s.Points k.toNat).Y) - ((at_ s.Points ((k - 1).toNat)).Y)) (by omega)), rfl, rfl, trivial⟩, (by omega), trivial⟩ ?_
    refine ae_block 1 ?_
    refine ae_then ?_
    refine aw_reg [] [1, 3, 4] [1, 50] [.ref 1 0, .arr 50, I (k + 1)] [some (.box [slPoint false s.Points]), some (.arr 1 (list.length + 1) (catF list.length (fI list) (litF [I (dirI (((at_ s.Points k.toNat).X) - ((at_ s.Points ((k - 1).toNat)).X)) (((at_ s.Points k.toNat).Y) - ((at_ s.Points ((k - 1).toNat)).Y)))] 1)))] [inR .i64 (k + 1)] (by kernel_rfl) hB ⟨(inR_i64 (by omega) (by omega)), trivial⟩ ?_
    refine ae_weak hB [(703, 50)] (T := [(1, .ref 1 0), (3, .arr 703), (4, I (k + 1))]) (O := [(1, .box [slPoint false s.Points]), (703, .arr 1 ((list ++ [(dirI (((at_ s.Points k.toNat).X) - ((at_ s.Points ((k - 1).toNat)).X)) (((at_ s.Points k.toNat).Y) - ((at_ s.Points ((k - 1).toNat)).Y)))]).length) (fI (list ++ [(dirI (((at_ s.Points k.toNat).X) - ((at_ s.Points ((k - 1).toNat)).X)) (((at_ s.Points k.toNat).Y) - ((at_ s.Points ((k - 1).toNat)).Y)))])))]) rfl (⟨.inl rfl, .inl rfl, .inl rfl, trivial⟩) (⟨.inl rfl, .inr ⟨rfl, (by first | rfl | (simp; done) | (simp; omega) | omega), fun i hi => .inl (cat_snoc (enc := cI) (xs := list) rfl i hi)⟩, trivial⟩) (ae_again _ (by omega) ⟨(list ++ [(dirI (((at_ s.Points k.toNat).X) - ((at_ s.Points ((k - 1).toNat)).X)) (((at_ s.Points k.toNat).Y) - ((at_ s.Points ((k - 1).toNat)).Y)))]), (k + 1), rfl, (by omega), (by rw [hd0]; first | (exact (dirsL_same hi0.1 (by omega) (by omega)).symm) | (exact (dirsL_more hi0.1 (by omega)).symm)), rfl⟩)
  ·have hie : k.toNat = s.Points.length := by omega
   rw [hie] at hd0
   subst hd0
   refine aw_reg [(4, .dec false)] [1, 3, 4, 11] [1, 703] [.ref 1 0, .arr 703, I k, Bv false] [some (.box [slPoint false s.Points]), some (.arr 1 ((dirsL s.Points s.Points.length).length) (fI (dirsL s.Points s.Points.length)))] [¬ (k < (s.Points.length : Int))] (by kernel_rfl) hB ⟨h1, trivial⟩ ?_
   refine ae_then ?_
   refine aw_false rfl ?_
   refine aw_exit ?_
   refine ae_exit_then ?_
   refine ae_exit_then ?_
   refine ae_exit_same ?_
   refine ae_then ?_
   refine aw_seq ?_
   refine aw_reg [] [2] [703] [.arr 703] [some (.arr 1 ((dirsL s.Points s.Points.length).length) (fI (dirsL s.Points s.Points.length)))] [] (by kernel_rfl) hB trivial ?_
   refine ae_then ?_
   refine aw_ret ?_
   refine ae_ret hB (.arr 703) (by kernel_rfl) (.inr ⟨(fun _ => rfl), rfl, rfl, fun i _ => .inl rfl⟩) rfl (fun _ => (tagI true _))


/-- f 0 + .. + f (n - 1). -/
def sumN : Nat → (Nat → Int) → Int
  | 0, _ => 0
  | n + 1, f => sumN n f + f n
theorem sumN_succ {n : Int} (h : 0 ≤ n) (f : Nat → Int) : sumN (n + 1).toNat f = sumN n.toNat f + f n.toNat := by
  have : (n + 1).toNat = n.toNat + 1 := by omega
  rw [this]; rfl

def bendI (a b : Int) : Int := (b - a + 11) % 8 - 3
theorem bendI_bd (a b : Int) : -3 ≤ bendI a b ∧ bendI a b ≤ 4 := by unfold bendI; omega
def bendS (l : List Int) (k : Nat) : Int := sumN k fun j => if j = 0 then 0 else bendI (at_ l (j - 1)) (at_ l j)
theorem bendS_succ {l : List Int} {i : Int} (h : 1 ≤ i) : bendS l (i + 1).toNat = bendS l i.toNat + bendI (at_ l (i - 1).toNat) (at_ l i.toNat) := by
  unfold bendS
  rw [sumN_succ (by omega), if_neg (by omega)]
  have e2 : (i - 1).toNat = i.toNat - 1 := by omega
  rw [e2]
theorem bendS_one (l : List Int) (k : Nat) (h : k ≤ 1) : bendS l k = 0 := by
  have : k = 0 ∨ k = 1 := by omega
  rcases this with rfl | rfl <;> simp [bendS, sumN]
theorem bendS_bd (l : List Int) (k : Nat) : -3 * (k : Int) ≤ bendS l k ∧ bendS l k ≤ 4 * (k : Int) := by
  induction k with
  | zero => simp [bendS, sumN]
  | succ k ih =>
    have := bendI_bd (at_ l (k - 1)) (at_ l k)
    unfold bendS at ih ⊢
    simp only [sumN]
    split <;> omega
theorem dirsL_bd (xs : List Point) : ∀ (k j : Nat), j < (dirsL xs k).length → 0 ≤ at_ (dirsL xs k) j ∧ at_ (dirsL xs k) j ≤ 7 := by
  intro k
  induction k with
  | zero => intro j h; simp [dirsL] at h
  | succ k ih =>
    unfold dirsL
    split
    · exact ih
    · intro j h
      simp only [List.length_append, List.length_singleton] at h
      by_cases e : j < (dirsL xs k).length
      · have := ih j e
        simp only [at_, List.getD_eq_getElem?_getD, List.getElem?_append_left e] at this ⊢
        exact this
      · have e2 : j = (dirsL xs k).length := by omega
        subst e2
        simp [at_]
        exact dirI_bd _ _
/-- The sum of a stroke's turns. -/
def bendT (s : Stroke) : Int := bendS (dirsL s.Points s.Points.length) (dirsL s.Points s.Points.length).length
theorem bendT_bd {s : Stroke} (ok : okStroke' s = true) : -180 ≤ bendT s ∧ bendT s ≤ 240 := by
  have h := okS_len ok
  have h1 := dirsL_len s.Points s.Points.length
  have h2 := bendS_bd (dirsL s.Points s.Points.length) (dirsL s.Points s.Points.length).length
  unfold bendT; omega

-- impl.BendOf
theorem BendOf_ok (s : Stroke) (ok : okStroke' s = true) : Con Tryz.prog 63 [.agg [slPoint false s.Points]] true (.tup [I (bendT s), I 0]) := by
  have hln := okS_len ok
  have hdl := dirsL_len s.Points s.Points.length
  refine fn_ok (fn := Tryz.f63) (nt := 35) Tryz.func63 rfl rfl rfl rfl (by simp [taggedL, tagged, tagPoint]) fun B hB => ?_
  refine aw_lens (x := .agg [slPoint false s.Points]) 0 rfl (fun len_s => ?_)
  simp [LenOK, LenL, cPoint, fPoint, slPoint] at len_s
  refine aw_seq ?_
  refine aw_reg [(0, .new 1)] [1] [1] [.ref 1 0] [some (.box [slPoint false s.Points])] [] (by kernel_rfl) hB trivial ?_
  refine ae_then ?_
  refine aw_seq ?_
  refine aw_seq ?_
  refine aw_reg [(1, .call [(true, .agg [slPoint false s.Points])] true (Bv true))] [1, 9] [1] [.ref 1 0, Bv false] [some (.box [slPoint false s.Points])] [Con Tryz.prog 33 [.agg [slPoint false s.Points]] true (Bv true) ∧ ((.agg [slPoint false s.Points] : AV) = .agg [slPoint false s.Points]) ∧ True] (by kernel_rfl) hB ⟨⟨(con_bool ok (ValidStroke_ok s)), rfl, trivial⟩, trivial⟩ ?_
  refine ae_then ?_
  refine aw_false rfl ?_
  refine aw_skip ?_
  refine ae_then ?_
  refine aw_seq ?_
  refine aw_reg [(1, .call [(true, .agg [slPoint false s.Points])] true (slI true (dirsL s.Points s.Points.length)))] [4] [] [slI true (dirsL s.Points s.Points.length)] [] [Con Tryz.prog 92 [.agg [slPoint false s.Points]] true (slI true (dirsL s.Points s.Points.length)) ∧ ((.agg [slPoint false s.Points] : AV) = .agg [slPoint false s.Points]) ∧ True] (by kernel_rfl) hB ⟨⟨(directionsOf_ok s ok), rfl, trivial⟩, trivial⟩ ?_
  refine ae_then ?_
  refine aw_seq ?_
  refine aw_reg [] [4, 5] [] [slI true (dirsL s.Points s.Points.length), I 0] [] [] (by kernel_rfl) hB trivial ?_
  refine ae_then ?_
  refine aw_seq ?_
  refine aw_seq ?_
  refine aw_reg [] [4, 5, 6] [] [slI true (dirsL s.Points s.Points.length), I 0, I 1] [] [] (by kernel_rfl) hB trivial ?_
  refine ae_then ?_
  refine aw_block ?_
  refine aw_loop (fun gn gσ => ∃ (sum : Int) (k : Int), gn = (((dirsL s.Points s.Points.length).length : Int) - k).toNat ∧ (1 ≤ k ∧ (k ≤ ((dirsL s.Points s.Points.length).length : Int) ∨ k = 1)) ∧ (sum = bendS (dirsL s.Points s.Points.length) k.toNat) ∧ (-3 * k ≤ sum ∧ sum ≤ 4 * k) ∧ gσ = mkS [(4, slI true (dirsL s.Points s.Points.length)), (5, I sum), (6, I k)] []) ((((dirsL s.Points s.Points.length).length : Int) - 1).toNat) ⟨0, 1, rfl, (by omega), (by exact (bendS_one _ _ (by decide)).symm), (by omega), rfl⟩ (fun gn gσ hI => ?_)
  obtain ⟨sum, k, rfl, hb0, hb1, hb2, rfl⟩ := hI
  refine aw_seq ?_
  refine aw_seq ?_
  by_cases h1 : k < (((dirsL s.Points s.Points.length).length) : Int)
  ·have hi : k.toNat < (dirsL s.Points s.Points.length).length := by omega
   have hi2 : (k - 1).toNat < (dirsL s.Points s.Points.length).length := by omega
   have hd1 := dirsL_bd _ _ _ hi
   have hd2 := dirsL_bd _ _ _ hi2
   have hbb := bendI_bd (at_ (dirsL s.Points s.Points.length) (k - 1).toNat) (at_ (dirsL s.Points s.Points.length) k.toNat)
   refine aw_reg [(3, .dec true)] [4, 5, 6, 15] [] [slI true (dirsL s.Points s.Points.length), I sum, I k, Bv true] [] [k < (((dirsL s.Points s.Points.length).length) : Int)] (by kernel_rfl) hB ⟨h1, trivial⟩ ?_
   refine ae_then ?_
   refine aw_true rfl ?_
   refine aw_skip ?_
   refine ae_then ?_
   refine aw_seq ?_
   refine aw_block ?_
   refine aw_reg [(13, .nn)] [4, 5, 6] [] [slI true (dirsL s.Points s.Points.length), I (sum + ((((((at_ (dirsL s.Points s.Points.length) k.toNat) - (at_ (dirsL s.Points s.Points.length) ((k - 1).toNat))) + 8) + 3) % 8) - 3)), I k] [] [(0 : Int) ≤ k ∧ k < (((dirsL s.Points s.Points.length).length) : Int), inR .i64 (k - 1), (0 : Int) ≤ (k - 1) ∧ (k - 1) < (((dirsL s.Points s.Points.length).length) : Int), inR .i64 ((at_ (dirsL s.Points s.Points.length) k.toNat) - (at_ (dirsL s.Points s.Points.length) ((k - 1).toNat))), inR .i64 (((at_ (dirsL s.Points s.Points.length) k.toNat) - (at_ (dirsL s.Points s.Points.length) ((k - 1).toNat))) + 8), inR .i64 ((((at_ (dirsL s.Points s.Points.length) k.toNat) - (at_ (dirsL s.Points s.Points.length) ((k - 1).toNat))) + 8) + 3), (0 : Int) ≤ ((((at_ (dirsL s.Points s.Points.length) k.toNat) - (at_ (dirsL s.Points s.Points.length) ((k - 1).toNat))) + 8) + 3) ∧ (0 : Int) < 8, inR .i64 ((((((at_ (dirsL s.Points s.Points.length) k.toNat) - (at_ (dirsL s.Points s.Points.length) ((k - 1).toNat))) + 8) + 3) % 8) - 3), inR .i64 (sum + ((((((at_ (dirsL s.Points s.Points.length) k.toNat) - (at_ (dirsL s.Points s.Points.length) ((k - 1).toNat))) + 8) + 3) % 8) - 3))] (by kernel_rfl) hB ⟨⟨(by omega), (by omega)⟩, (inR_i64 (by omega) (by omega)), ⟨(by omega), (by omega)⟩, (inR_i64 (by omega) (by omega)), (inR_i64 (by omega) (by omega)), (inR_i64 (by omega) (by omega)), ⟨(by omega), (by omega)⟩, (inR_i64 (by omega) (by omega)), (inR_i64 (by omega) (by omega)), trivial⟩ ?_
   refine ae_block 1 ?_
   refine ae_then ?_
   refine aw_reg [] [4, 5, 6] [] [slI true (dirsL s.Points s.Points.length), I (sum + ((((((at_ (dirsL s.Points s.Points.length) k.toNat) - (at_ (dirsL s.Points s.Points.length) ((k - 1).toNat))) + 8) + 3) % 8) - 3)), I (k + 1)] [] [inR .i64 (k + 1)] (by kernel_rfl) hB ⟨(inR_i64 (by omega) (by omega)), trivial⟩ ?_
   exact ae_again _ (by omega) ⟨(sum + ((((((at_ (dirsL s.Points s.Points.length) k.toNat) - (at_ (dirsL s.Points s.Points.length) ((k - 1).toNat))) + 8) + 3) % 8) - 3)), (k + 1), rfl, (by omega), (by rw [bendS_succ hb0.1, ← hb1] <;> first | rfl | (unfold bendI; omega)), (by first | omega | (unfold bendI at *; omega)), rfl⟩
  ·have hbt : sum = bendT s := by rw [hb1]; unfold bendT; by_cases e : k = 1; (subst e; rw [bendS_one _ _ (by omega), bendS_one _ _ (by omega)]); (congr 1; omega)
   refine aw_reg [(3, .dec false)] [4, 5, 6, 15] [] [slI true (dirsL s.Points s.Points.length), I sum, I k, Bv false] [] [¬ (k < (((dirsL s.Points s.Points.length).length) : Int))] (by kernel_rfl) hB ⟨h1, trivial⟩ ?_
   refine ae_then ?_
   refine aw_false rfl ?_
   refine aw_exit ?_
   refine ae_exit_then ?_
   refine ae_exit_then ?_
   refine ae_exit_same ?_
   refine ae_then ?_
   refine aw_seq ?_
   refine aw_reg [] [2, 3] [] [I sum, I 0] [] [] (by kernel_rfl) hB trivial ?_
   refine ae_then ?_
   refine aw_ret ?_
   refine ae_ret hB (.tup [I sum, I 0]) (by kernel_rfl) (.inl (by rw [hbt])) rfl (fun _ => (by simp [tagged, taggedL]))


-- impl.firstOf
theorem firstOf_ok (s : Stroke) (ok : okStroke' s = true) : Con Tryz.prog 65 [.agg [slPoint false s.Points]] true (agPoint (at_ s.Points 0)) := by
  have hln := okS_len ok
  refine fn_ok (fn := Tryz.f65) (nt := 7) Tryz.func65 rfl rfl rfl rfl (by simp [taggedL, tagged, tagPoint]) fun B hB => ?_
  refine aw_lens (x := .agg [slPoint false s.Points]) 0 rfl (fun len_s => ?_)
  simp [LenOK, LenL, cPoint, fPoint, slPoint] at len_s
  refine aw_seq ?_
  refine aw_reg [(0, .new 1), (1, .new 2)] [1, 2] [1, 2] [.ref 1 0, .ref 2 0] [some (.box [slPoint false s.Points]), some (.box [I 0, I 0, I 0])] [] (by kernel_rfl) hB trivial ?_
  refine ae_then ?_
  refine aw_seq ?_
  refine aw_reg [] [2] [2] [.ref 2 0] [some (bxPoint (at_ s.Points 0))] [(0 : Int) ≤ 0 ∧ 0 < (s.Points.length : Int)] (by kernel_rfl) hB ⟨⟨(by omega), (by omega)⟩, trivial⟩ ?_
  refine ae_then ?_
  refine aw_ret ?_
  refine ae_ret hB (agPoint (at_ s.Points 0)) (by kernel_rfl) (.inl rfl) rfl (fun _ => (by simp [tagged, taggedL]))


-- impl.lastOf
theorem lastOf_ok (s : Stroke) (ok : okStroke' s = true) : Con Tryz.prog 66 [.agg [slPoint false s.Points]] true (agPoint (at_ s.Points (s.Points.length - 1))) := by
  have hln := okS_len ok
  refine fn_ok (fn := Tryz.f66) (nt := 11) Tryz.func66 rfl rfl rfl rfl (by simp [taggedL, tagged, tagPoint]) fun B hB => ?_
  refine aw_lens (x := .agg [slPoint false s.Points]) 0 rfl (fun len_s => ?_)
  simp [LenOK, LenL, cPoint, fPoint, slPoint] at len_s
  refine aw_seq ?_
  refine aw_reg [(0, .new 1), (1, .new 2)] [1, 2] [1, 2] [.ref 1 0, .ref 2 0] [some (.box [slPoint false s.Points]), some (.box [I 0, I 0, I 0])] [] (by kernel_rfl) hB trivial ?_
  refine ae_then ?_
  refine aw_seq ?_
  refine aw_reg [] [2] [2] [.ref 2 0] [some (bxPoint (at_ s.Points (((s.Points.length : Int) - 1).toNat)))] [inR .i64 ((s.Points.length : Int) - 1), (0 : Int) ≤ ((s.Points.length : Int) - 1) ∧ ((s.Points.length : Int) - 1) < (s.Points.length : Int)] (by kernel_rfl) hB ⟨(inR_i64 (by omega) (by omega)), ⟨(by omega), (by omega)⟩, trivial⟩ ?_
  refine ae_then ?_
  refine aw_ret ?_
  refine ae_ret hB (agPoint (at_ s.Points (((s.Points.length : Int) - 1).toNat))) (by kernel_rfl) (.inl (by first | rfl | (have e : ((s.Points.length : Int) - 1).toNat = s.Points.length - 1 := (by omega); rw [e]))) rfl (fun _ => (by simp [tagged, taggedL]))


def joinB (a b : Box) : Box := ⟨min a.X1 b.X1, min a.Y1 b.Y1, max a.X2 b.X2, max a.Y2 b.Y2⟩
def ptB (p : Point) : Box := ⟨p.X, p.Y, p.X, p.Y⟩
/-- The box of the first point and the first k points. -/
def boxS (xs : List Point) : Nat → Box
  | 0 => ptB (at_ xs 0)
  | k + 1 => joinB (boxS xs k) (ptB (at_ xs k))
theorem boxS_succ {xs : List Point} {i : Int} (h : 0 ≤ i) : boxS xs (i + 1).toNat = joinB (boxS xs i.toNat) (ptB (at_ xs i.toNat)) := by
  have : (i + 1).toNat = i.toNat + 1 := by omega
  rw [this]; rfl
theorem boxS_one (xs : List Point) : boxS xs 1 = ptB (at_ xs 0) := by simp [boxS, joinB, ptB]
/-- A box that is one. -/
def okBox (b : Box) : Prop := (0 ≤ b.X1 ∧ b.X1 ≤ b.X2 ∧ b.X2 ≤ 4095) ∧ 0 ≤ b.Y1 ∧ b.Y1 ≤ b.Y2 ∧ b.Y2 ≤ 4095
theorem joinB_ok {a b : Box} (ha : okBox a) (hb : okBox b) : okBox (joinB a b) := by unfold okBox joinB at *; simp only; omega
theorem ptB_ok {p : Point} (h : okP p = true) : okBox (ptB p) := by have := okP_iff.1 h; unfold okBox ptB; simp only; omega
theorem boxS_ok {s : Stroke} (ok : okStroke' s = true) : ∀ k : Nat, k ≤ s.Points.length → okBox (boxS s.Points k)
  | 0, _ => ptB_ok (okS_at ok (by have := okS_len ok; omega))
  | k + 1, h => joinB_ok (boxS_ok ok k (by omega)) (ptB_ok (okS_at ok (by omega)))
theorem boxS_all {s : Stroke} (ok : okStroke' s = true) : okBox (boxS s.Points s.Points.length) := boxS_ok ok _ (Nat.le_refl _)

def caretB (s : Stroke) : Bool :=
  let b := boxS s.Points s.Points.length
  decide (0 < b.Y2 - b.Y1) && (decide (b.Y2 - b.Y1 ≤ 2 * ((at_ s.Points 0).Y - b.Y1)) && (decide (b.Y2 - b.Y1 ≤ 2 * ((at_ s.Points (s.Points.length - 1)).Y - b.Y1)) && decide ((revS s.Points s.Points.length).1 = 0)))
/-- The segment from a stroke's first point to its last one. -/
def endsI (s : Stroke) : Int := segI (at_ s.Points 0) (at_ s.Points (s.Points.length - 1))
def strI (s : Stroke) : Int := if sumS s.Points s.Points.length = 0 then 1000 else min 1000 (1000 * endsI s / sumS s.Points s.Points.length)
/-- The gesture of a stroke. -/
def gestI (s : Stroke) : Int :=
  if sumS s.Points s.Points.length ≤ 160 then 1 else if 3 ≤ (revS s.Points s.Points.length).1 then 2
  else if 6 ≤ ((bendT s).natAbs : Int) ∧ 4 * endsI s ≤ sumS s.Points s.Points.length then 3 else if caretB s = true then 4 else if 900 ≤ strI s then 5 else 0
def gestR (s : Stroke) : Int × Int := if okStroke' s then (gestI s, 0) else (0, 1)
theorem ends_bd {s : Stroke} (ok : okStroke' s = true) : 0 ≤ endsI s ∧ endsI s ≤ 92659 := by
  have := okS_len ok
  exact (segI_bd (okS_at ok (by omega)) (okS_at ok (by omega))).2

-- impl.StraightOf
theorem StraightOf_ok (s : Stroke) (ok : okStroke' s = true) : Con Tryz.prog 64 [.agg [slPoint false s.Points]] true (.tup [I (strI s), I 0]) := by
  have hln := okS_len ok
  have hpf := okS_at ok (j := 0) (by omega)
  have hpl := okS_at ok (j := s.Points.length - 1) (by omega)
  have hpf' := okP_iff.1 hpf
  have hpl' := okP_iff.1 hpl
  have hbx := boxS_all ok
  unfold okBox at hbx
  have hsb := sumS_bd ok s.Points.length (Nat.le_refl _)
  have heb := ends_bd ok
  have hle : ((s.Points.length : Int) - 1).toNat = s.Points.length - 1 := by omega
  have hplz : okP (at_ s.Points ((s.Points.length : Int) - 1).toNat) = true := by rw [hle]; exact hpl
  have hplz' := okP_iff.1 hplz
  have heb2 := segI_bd hpf hplz
  have heb3 := segI_bd hpf hpl
  refine fn_ok (fn := Tryz.f64) (nt := 21) Tryz.func64 rfl rfl rfl rfl (by simp [taggedL, tagged, tagPoint]) fun B hB => ?_
  refine aw_lens (x := .agg [slPoint false s.Points]) 0 rfl (fun len_s => ?_)
  simp [LenOK, LenL, cPoint, fPoint, slPoint] at len_s
  refine aw_seq ?_
  refine aw_reg [(0, .new 1)] [1] [1] [.ref 1 0] [some (.box [slPoint false s.Points])] [] (by kernel_rfl) hB trivial ?_
  refine ae_then ?_
  refine aw_seq ?_
  refine aw_seq ?_
  refine aw_reg [(1, .call [(true, .agg [slPoint false s.Points])] true (Bv true))] [1, 7] [1] [.ref 1 0, Bv false] [some (.box [slPoint false s.Points])] [Con Tryz.prog 33 [.agg [slPoint false s.Points]] true (Bv true) ∧ ((.agg [slPoint false s.Points] : AV) = .agg [slPoint false s.Points]) ∧ True] (by kernel_rfl) hB ⟨⟨(con_bool ok (ValidStroke_ok s)), rfl, trivial⟩, trivial⟩ ?_
  refine ae_then ?_
  refine aw_false rfl ?_
  refine aw_skip ?_
  refine ae_then ?_
  refine aw_seq ?_
  refine aw_reg [(1, .call [(true, .agg [slPoint false s.Points])] true (I (sumS s.Points s.Points.length)))] [1, 4] [1] [.ref 1 0, I (sumS s.Points s.Points.length)] [some (.box [slPoint false s.Points])] [Con Tryz.prog 62 [.agg [slPoint false s.Points]] true (I (sumS s.Points s.Points.length)) ∧ ((.agg [slPoint false s.Points] : AV) = .agg [slPoint false s.Points]) ∧ True] (by kernel_rfl) hB ⟨⟨(strokeLength_ok s ok), rfl, trivial⟩, trivial⟩ ?_
  refine ae_then ?_
  refine aw_seq ?_
  refine aw_seq ?_
  by_cases h1 : (sumS s.Points s.Points.length) = 0
  ·refine aw_reg [(1, .dec true)] [1, 4, 11] [1] [.ref 1 0, I (sumS s.Points s.Points.length), Bv true] [some (.box [slPoint false s.Points])] [(sumS s.Points s.Points.length) = 0] (by kernel_rfl) hB ⟨h1, trivial⟩ ?_
   refine ae_then ?_
   refine aw_true rfl ?_
   refine aw_seq ?_
   refine aw_reg [] [2, 3] [] [I 1000, I 0] [] [] (by kernel_rfl) hB trivial ?_
   refine ae_then ?_
   refine aw_ret ?_
   refine ae_ret_then ?_
   refine ae_ret hB (.tup [I 1000, I 0]) (by kernel_rfl) (.inl (by unfold strI endsI; simp_all [hle])) rfl (fun _ => (by simp [tagged, taggedL]))
  ·refine aw_reg [(1, .dec false)] [1, 4, 11] [1] [.ref 1 0, I (sumS s.Points s.Points.length), Bv false] [some (.box [slPoint false s.Points])] [¬ ((sumS s.Points s.Points.length) = 0)] (by kernel_rfl) hB ⟨h1, trivial⟩ ?_
   refine ae_then ?_
   refine aw_false rfl ?_
   refine aw_skip ?_
   refine ae_then ?_
   refine aw_seq ?_
   refine aw_reg [(1, .call [(true, .agg [slPoint false s.Points])] true (agPoint (at_ s.Points 0))), (3, .call [(true, .agg [slPoint false s.Points])] true (agPoint (at_ s.Points (s.Points.length - 1)))), (4, .call [(true, agPoint (at_ s.Points 0)), (true, agPoint (at_ s.Points (s.Points.length - 1)))] true (I (segI (at_ s.Points 0) (at_ s.Points (s.Points.length - 1))))), (7, .nn)] [2, 3] [] [I (min 1000 ((1000 * (segI (at_ s.Points 0) (at_ s.Points (s.Points.length - 1)))) / (sumS s.Points s.Points.length))), I 0] [] [Con Tryz.prog 65 [.agg [slPoint false s.Points]] true (agPoint (at_ s.Points 0)) ∧ ((.agg [slPoint false s.Points] : AV) = .agg [slPoint false s.Points]) ∧ True, Con Tryz.prog 66 [.agg [slPoint false s.Points]] true (agPoint (at_ s.Points (s.Points.length - 1))) ∧ ((.agg [slPoint false s.Points] : AV) = .agg [slPoint false s.Points]) ∧ True, Con Tryz.prog 68 [agPoint (at_ s.Points 0), agPoint (at_ s.Points (s.Points.length - 1))] true (I (segI (at_ s.Points 0) (at_ s.Points (s.Points.length - 1)))) ∧ ((agPoint (at_ s.Points 0) : AV) = agPoint (at_ s.Points 0)) ∧ ((agPoint (at_ s.Points (s.Points.length - 1)) : AV) = agPoint (at_ s.Points (s.Points.length - 1))) ∧ True, inR .i64 (1000 * (segI (at_ s.Points 0) (at_ s.Points (s.Points.length - 1)))), (0 : Int) ≤ (1000 * (segI (at_ s.Points 0) (at_ s.Points (s.Points.length - 1)))) ∧ (0 : Int) < (sumS s.Points s.Points.length) ∧ inR .i64 (1000 * (segI (at_ s.Points 0) (at_ s.Points (s.Points.length - 1))))] (by kernel_rfl) hB ⟨⟨(firstOf_ok s ok), rfl, trivial⟩, ⟨(lastOf_ok s ok), rfl, trivial⟩, ⟨(lengthOf_ok (at_ s.Points 0) (at_ s.Points (s.Points.length - 1)) (by assumption) (by assumption)), rfl, rfl, trivial⟩, (inR_i64 (by omega) (by omega)), ⟨(by omega), (by omega), (inR_i64 (by omega) (by omega))⟩, trivial⟩ ?_
   refine ae_then ?_
   refine aw_ret ?_
   refine ae_ret hB (.tup [I (min 1000 ((1000 * (segI (at_ s.Points 0) (at_ s.Points (s.Points.length - 1)))) / (sumS s.Points s.Points.length))), I 0]) (by kernel_rfl) (.inl (by unfold strI endsI; simp_all [hle])) rfl (fun _ => (by simp [tagged, taggedL]))


-- impl.joinBoxes
theorem joinBoxes_ok (a : Box) (b : Box) : Con Tryz.prog 82 [agBox a, agBox b] true (agBox (joinB a b)) := by
  refine fn_ok (fn := Tryz.f82) (nt := 26) Tryz.func82 rfl rfl rfl rfl (by simp [taggedL, tagged]) fun B hB => ?_
  refine aw_seq ?_
  refine aw_reg [(0, .new 2), (1, .new 3), (2, .new 4)] [2, 3, 4] [2, 3, 4] [.ref 2 0, .ref 3 0, .ref 4 0] [some (bxBox a), some (bxBox b), some (.box [I 0, I 0, I 0, I 0])] [] (by kernel_rfl) hB trivial ?_
  refine ae_then ?_
  refine aw_seq ?_
  refine aw_reg [] [4] [4] [.ref 4 0] [some (.box [I (min a.X1 b.X1), I (min a.Y1 b.Y1), I (max a.X2 b.X2), I (max a.Y2 b.Y2)])] [] (by kernel_rfl) hB trivial ?_
  refine ae_then ?_
  refine aw_ret ?_
  refine ae_ret hB (.agg [I (min a.X1 b.X1), I (min a.Y1 b.Y1), I (max a.X2 b.X2), I (max a.Y2 b.Y2)]) (by kernel_rfl) (.inl (by first | rfl | (refine congrArg Bv ?_; simp [*]; done) | (refine congrArg Bv ?_; simp [*]; omega) | (refine congrArg Bv ?_; simp_all []; done) | (refine congrArg Bv ?_; simp_all []; omega))) rfl (fun _ => (by simp [tagged, taggedL]))


-- impl.boxOfStroke
theorem boxOfStroke_ok (s : Stroke) (ok : okStroke' s = true) : Con Tryz.prog 54 [.agg [slPoint false s.Points]] true (agBox (boxS s.Points s.Points.length)) := by
  have hln := okS_len ok
  refine fn_ok (fn := Tryz.f54) (nt := 38) Tryz.func54 rfl rfl rfl rfl (by simp [taggedL, tagged, tagPoint]) fun B hB => ?_
  refine aw_lens (x := .agg [slPoint false s.Points]) 0 rfl (fun len_s => ?_)
  simp [LenOK, LenL, cPoint, fPoint, slPoint] at len_s
  refine aw_seq ?_
  refine aw_reg [(0, .new 1), (1, .new 2)] [1, 2] [1, 2] [.ref 1 0, .ref 2 0] [some (.box [slPoint false s.Points]), some (.box [I 0, I 0, I 0, I 0])] [] (by kernel_rfl) hB trivial ?_
  refine ae_then ?_
  refine aw_seq ?_
  refine aw_reg [(1, .call [(true, .agg [slPoint false s.Points])] true (agPoint (at_ s.Points 0))), (2, .new 3)] [1, 2, 3] [1, 2, 3] [.ref 1 0, .ref 2 0, .ref 3 0] [some (.box [slPoint false s.Points]), some (.box [I 0, I 0, I 0, I 0]), some (bxPoint (at_ s.Points 0))] [Con Tryz.prog 65 [.agg [slPoint false s.Points]] true (agPoint (at_ s.Points 0)) ∧ ((.agg [slPoint false s.Points] : AV) = .agg [slPoint false s.Points]) ∧ True] (by kernel_rfl) hB ⟨⟨(firstOf_ok s ok), rfl, trivial⟩, trivial⟩ ?_
  refine ae_then ?_
  refine aw_seq ?_
  refine aw_reg [(9, .new 4)] [1, 2, 4] [1, 2, 4] [.ref 1 0, .ref 2 0, .ref 4 0] [some (.box [slPoint false s.Points]), some (.box [I 0, I 0, I 0, I 0]), some (.box [I ((at_ s.Points 0).X), I ((at_ s.Points 0).Y), I ((at_ s.Points 0).X), I ((at_ s.Points 0).Y)])] [] (by kernel_rfl) hB trivial ?_
  refine ae_then ?_
  refine aw_seq ?_
  refine aw_seq ?_
  refine aw_reg [] [2, 4, 19, 20, 21] [2, 4] [.ref 2 0, .ref 4 0, slPoint false s.Points, I (s.Points.length : Int), I 0] [some (.box [I 0, I 0, I 0, I 0]), some (.box [I ((at_ s.Points 0).X), I ((at_ s.Points 0).Y), I ((at_ s.Points 0).X), I ((at_ s.Points 0).Y)])] [] (by kernel_rfl) hB trivial ?_
  refine ae_then ?_
  refine aw_block ?_
  refine aw_loop (fun gn gσ => ∃ (t21 : Int) (x1 : Int) (y1 : Int) (x2 : Int) (y2 : Int), gn = ((s.Points.length : Int) - t21).toNat ∧ (0 ≤ t21 ∧ t21 ≤ (s.Points.length : Int)) ∧ (Box.mk x1 y1 x2 y2 = boxS s.Points t21.toNat) ∧ gσ = mkS [(2, .ref 2 0), (4, .ref 4 0), (19, slPoint false s.Points), (20, I (s.Points.length : Int)), (21, I t21)] [(2, .box [I 0, I 0, I 0, I 0]), (4, .box [I x1, I y1, I x2, I y2])]) (((s.Points.length : Int) - 0).toNat) ⟨0, (at_ s.Points 0).X, (at_ s.Points 0).Y, (at_ s.Points 0).X, (at_ s.Points 0).Y, rfl, (by omega), (by first | rfl | exact (boxS_one _).symm), rfl⟩ (fun gn gσ hI => ?_)
  obtain ⟨t21, x1, y1, x2, y2, rfl, hi0, hb1, rfl⟩ := hI
  refine aw_seq ?_
  by_cases h1 : t21 < (s.Points.length : Int)
  ·have hi : t21.toNat < s.Points.length := by omega
   refine aw_reg [(0, .dec true)] [2, 4, 19, 20, 21, 22] [2, 4] [.ref 2 0, .ref 4 0, slPoint false s.Points, I (s.Points.length : Int), I t21, Bv true] [some (.box [I 0, I 0, I 0, I 0]), some (.box [I x1, I y1, I x2, I y2])] [t21 < (s.Points.length : Int)] (by kernel_rfl) hB ⟨h1, trivial⟩ ?_
   refine ae_then ?_
   refine aw_seq ?_
   refine aw_true rfl ?_
   refine aw_skip ?_
   refine ae_then ?_
   refine aw_seq ?_
   refine aw_block ?_
   refine aw_seq ?_
   refine aw_reg [(2, .new 6)] [2, 4, 6, 19, 20, 21] [2, 4, 6] [.ref 2 0, .ref 4 0, .ref 6 0, slPoint false s.Points, I (s.Points.length : Int), I t21] [some (.box [I 0, I 0, I 0, I 0]), some (.box [I x1, I y1, I x2, I y2]), some (bxPoint (at_ s.Points t21.toNat))] [(0 : Int) ≤ t21 ∧ t21 < (s.Points.length : Int)] (by kernel_rfl) hB ⟨⟨(by omega), (by omega)⟩, trivial⟩ ?_
   refine ae_then ?_
   refine aw_reg [(10, .call [(true, .agg [I x1, I y1, I x2, I y2]), (true, .agg [I ((at_ s.Points t21.toNat).X), I ((at_ s.Points t21.toNat).Y), I ((at_ s.Points t21.toNat).X), I ((at_ s.Points t21.toNat).Y)])] true (agBox (joinB (Box.mk x1 y1 x2 y2) (Box.mk ((at_ s.Points t21.toNat).X) ((at_ s.Points t21.toNat).Y) ((at_ s.Points t21.toNat).X) ((at_ s.Points t21.toNat).Y)))))] [2, 4, 19, 20, 21] [2, 4] [.ref 2 0, .ref 4 0, slPoint false s.Points, I (s.Points.length : Int), I t21] [some (.box [I 0, I 0, I 0, I 0]), some (bxBox (joinB (Box.mk x1 y1 x2 y2) (Box.mk ((at_ s.Points t21.toNat).X) ((at_ s.Points t21.toNat).Y) ((at_ s.Points t21.toNat).X) ((at_ s.Points t21.toNat).Y))))] [Con Tryz.prog 82 [.agg [I x1, I y1, I x2, I y2], .agg [I ((at_ s.Points t21.toNat).X), I ((at_ s.Points t21.toNat).Y), I ((at_ s.Points t21.toNat).X), I ((at_ s.Points t21.toNat).Y)]] true (agBox (joinB (Box.mk x1 y1 x2 y2) (Box.mk ((at_ s.Points t21.toNat).X) ((at_ s.Points t21.toNat).Y) ((at_ s.Points t21.toNat).X) ((at_ s.Points t21.toNat).Y)))) ∧ ((.agg [I x1, I y1, I x2, I y2] : AV) = .agg [I x1, I y1, I x2, I y2]) ∧ ((.agg [I ((at_ s.Points t21.toNat).X), I ((at_ s.Points t21.toNat).Y), I ((at_ s.Points t21.toNat).X), I ((at_ s.Points t21.toNat).Y)] : AV) = .agg [I ((at_ s.Points t21.toNat).X), I ((at_ s.Points t21.toNat).Y), I ((at_ s.Points t21.toNat).X), I ((at_ s.Points t21.toNat).Y)]) ∧ True] (by kernel_rfl) hB ⟨⟨(joinBoxes_ok (Box.mk x1 y1 x2 y2) (Box.mk ((at_ s.Points t21.toNat).X) ((at_ s.Points t21.toNat).Y) ((at_ s.Points t21.toNat).X) ((at_ s.Points t21.toNat).Y))), rfl, rfl, trivial⟩, trivial⟩ ?_
   refine ae_block 1 ?_
   refine ae_then ?_
   refine aw_reg [] [2, 4, 19, 20, 21] [2, 4] [.ref 2 0, .ref 4 0, slPoint false s.Points, I (s.Points.length : Int), I (t21 + 1)] [some (.box [I 0, I 0, I 0, I 0]), some (bxBox (joinB (Box.mk x1 y1 x2 y2) (Box.mk ((at_ s.Points t21.toNat).X) ((at_ s.Points t21.toNat).Y) ((at_ s.Points t21.toNat).X) ((at_ s.Points t21.toNat).Y))))] [inR .i64 (t21 + 1)] (by kernel_rfl) hB ⟨(inR_i64 (by omega) (by omega)), trivial⟩ ?_
   refine ae_weak hB [] (T := [(2, .ref 2 0), (4, .ref 4 0), (19, slPoint false s.Points), (20, I (s.Points.length : Int)), (21, I (t21 + 1))]) (O := [(2, .box [I 0, I 0, I 0, I 0]), (4, .box [I ((joinB (Box.mk x1 y1 x2 y2) (Box.mk ((at_ s.Points t21.toNat).X) ((at_ s.Points t21.toNat).Y) ((at_ s.Points t21.toNat).X) ((at_ s.Points t21.toNat).Y))).X1), I ((joinB (Box.mk x1 y1 x2 y2) (Box.mk ((at_ s.Points t21.toNat).X) ((at_ s.Points t21.toNat).Y) ((at_ s.Points t21.toNat).X) ((at_ s.Points t21.toNat).Y))).Y1), I ((joinB (Box.mk x1 y1 x2 y2) (Box.mk ((at_ s.Points t21.toNat).X) ((at_ s.Points t21.toNat).Y) ((at_ s.Points t21.toNat).X) ((at_ s.Points t21.toNat).Y))).X2), I ((joinB (Box.mk x1 y1 x2 y2) (Box.mk ((at_ s.Points t21.toNat).X) ((at_ s.Points t21.toNat).Y) ((at_ s.Points t21.toNat).X) ((at_ s.Points t21.toNat).Y))).Y2)])]) rfl (⟨.inl rfl, .inl rfl, .inl rfl, .inl rfl, .inl rfl, trivial⟩) (⟨.inl rfl, .inr ⟨rfl, ⟨rfl, ⟨rfl, ⟨rfl, rfl⟩⟩⟩⟩, trivial⟩) (ae_again _ (by omega) ⟨(t21 + 1), (joinB (Box.mk x1 y1 x2 y2) (Box.mk ((at_ s.Points t21.toNat).X) ((at_ s.Points t21.toNat).Y) ((at_ s.Points t21.toNat).X) ((at_ s.Points t21.toNat).Y))).X1, (joinB (Box.mk x1 y1 x2 y2) (Box.mk ((at_ s.Points t21.toNat).X) ((at_ s.Points t21.toNat).Y) ((at_ s.Points t21.toNat).X) ((at_ s.Points t21.toNat).Y))).Y1, (joinB (Box.mk x1 y1 x2 y2) (Box.mk ((at_ s.Points t21.toNat).X) ((at_ s.Points t21.toNat).Y) ((at_ s.Points t21.toNat).X) ((at_ s.Points t21.toNat).Y))).X2, (joinB (Box.mk x1 y1 x2 y2) (Box.mk ((at_ s.Points t21.toNat).X) ((at_ s.Points t21.toNat).Y) ((at_ s.Points t21.toNat).X) ((at_ s.Points t21.toNat).Y))).Y2, rfl, (by omega), (by rw [boxS_succ (by omega), ← hb1]; rfl), rfl⟩)
  ·have hie : t21.toNat = s.Points.length := by omega
   rw [hie] at hb1
   refine aw_reg [(0, .dec false)] [2, 4, 19, 20, 21, 22] [2, 4] [.ref 2 0, .ref 4 0, slPoint false s.Points, I (s.Points.length : Int), I t21, Bv false] [some (.box [I 0, I 0, I 0, I 0]), some (.box [I x1, I y1, I x2, I y2])] [¬ (t21 < (s.Points.length : Int))] (by kernel_rfl) hB ⟨h1, trivial⟩ ?_
   refine ae_then ?_
   refine aw_seq ?_
   refine aw_false rfl ?_
   refine aw_exit ?_
   refine ae_exit_then ?_
   refine ae_exit_then ?_
   refine ae_exit_same ?_
   refine ae_then ?_
   refine aw_seq ?_
   refine aw_reg [] [2] [2] [.ref 2 0] [some (.box [I x1, I y1, I x2, I y2])] [] (by kernel_rfl) hB trivial ?_
   refine ae_then ?_
   refine aw_ret ?_
   refine ae_ret hB (.agg [I x1, I y1, I x2, I y2]) (by kernel_rfl) (.inl (by rw [← hb1])) rfl (fun _ => (by simp [tagged, taggedL]))


-- impl.gestureOf
theorem gestureOf_ok (s : Stroke) (ok : okStroke' s = true) : Con Tryz.prog 34 [.agg [slPoint false s.Points]] true (I (gestI s)) := by
  have hln := okS_len ok
  have hpf := okS_at ok (j := 0) (by omega)
  have hpl := okS_at ok (j := s.Points.length - 1) (by omega)
  have hpf' := okP_iff.1 hpf
  have hpl' := okP_iff.1 hpl
  have hbx := boxS_all ok
  unfold okBox at hbx
  have hsb := sumS_bd ok s.Points.length (Nat.le_refl _)
  have heb := ends_bd ok
  have hle : ((s.Points.length : Int) - 1).toNat = s.Points.length - 1 := by omega
  have hplz : okP (at_ s.Points ((s.Points.length : Int) - 1).toNat) = true := by rw [hle]; exact hpl
  have hplz' := okP_iff.1 hplz
  have heb2 := segI_bd hpf hplz
  have heb3 := segI_bd hpf hpl
  have hbtb := bendT_bd ok
  refine fn_ok (fn := Tryz.f34) (nt := 86) Tryz.func34 rfl rfl rfl rfl (by simp [taggedL, tagged, tagPoint]) fun B hB => ?_
  refine aw_lens (x := .agg [slPoint false s.Points]) 0 rfl (fun len_s => ?_)
  simp [LenOK, LenL, cPoint, fPoint, slPoint] at len_s
  refine aw_seq ?_
  refine aw_reg [(0, .new 1)] [1] [1] [.ref 1 0] [some (.box [slPoint false s.Points])] [] (by kernel_rfl) hB trivial ?_
  refine ae_then ?_
  refine aw_seq ?_
  refine aw_reg [(1, .call [(true, .agg [slPoint false s.Points])] true (I (sumS s.Points s.Points.length))), (3, .call [(true, .agg [slPoint false s.Points])] true (I ((revS s.Points s.Points.length).1)))] [1, 3, 4] [1] [.ref 1 0, I (sumS s.Points s.Points.length), I ((revS s.Points s.Points.length).1)] [some (.box [slPoint false s.Points])] [Con Tryz.prog 62 [.agg [slPoint false s.Points]] true (I (sumS s.Points s.Points.length)) ∧ ((.agg [slPoint false s.Points] : AV) = .agg [slPoint false s.Points]) ∧ True, Con Tryz.prog 37 [.agg [slPoint false s.Points]] true (I ((revS s.Points s.Points.length).1)) ∧ ((.agg [slPoint false s.Points] : AV) = .agg [slPoint false s.Points]) ∧ True] (by kernel_rfl) hB ⟨⟨(strokeLength_ok s ok), rfl, trivial⟩, ⟨(reversalsOf_ok s ok), rfl, trivial⟩, trivial⟩ ?_
  refine ae_then ?_
  refine aw_seq ?_
  refine aw_reg [(1, .call [(true, .agg [slPoint false s.Points])] true (.tup [I (bendT s), I 0]))] [1, 3, 4, 5] [1] [.ref 1 0, I (sumS s.Points s.Points.length), I ((revS s.Points s.Points.length).1), I (bendT s)] [some (.box [slPoint false s.Points])] [Con Tryz.prog 63 [.agg [slPoint false s.Points]] true (.tup [I (bendT s), I 0]) ∧ ((.agg [slPoint false s.Points] : AV) = .agg [slPoint false s.Points]) ∧ True] (by kernel_rfl) hB ⟨⟨(BendOf_ok s ok), rfl, trivial⟩, trivial⟩ ?_
  refine ae_then ?_
  refine aw_seq ?_
  refine aw_reg [(1, .call [(true, .agg [slPoint false s.Points])] true (.tup [I (strI s), I 0]))] [1, 3, 4, 5, 7] [1] [.ref 1 0, I (sumS s.Points s.Points.length), I ((revS s.Points s.Points.length).1), I (bendT s), I (strI s)] [some (.box [slPoint false s.Points])] [Con Tryz.prog 64 [.agg [slPoint false s.Points]] true (.tup [I (strI s), I 0]) ∧ ((.agg [slPoint false s.Points] : AV) = .agg [slPoint false s.Points]) ∧ True] (by kernel_rfl) hB ⟨⟨(StraightOf_ok s ok), rfl, trivial⟩, trivial⟩ ?_
  refine ae_then ?_
  refine aw_seq ?_
  refine aw_reg [(1, .call [(true, .agg [slPoint false s.Points])] true (agPoint (at_ s.Points 0))), (3, .call [(true, .agg [slPoint false s.Points])] true (agPoint (at_ s.Points (s.Points.length - 1)))), (5, .call [(true, .agg [slPoint false s.Points])] true (agBox (boxS s.Points s.Points.length))), (6, .new 9), (7, .new 10), (8, .new 11)] [3, 4, 5, 7, 9, 10, 11] [9, 10, 11] [I (sumS s.Points s.Points.length), I ((revS s.Points s.Points.length).1), I (bendT s), I (strI s), .ref 9 0, .ref 10 0, .ref 11 0] [some (bxPoint (at_ s.Points 0)), some (bxPoint (at_ s.Points (s.Points.length - 1))), some (bxBox (boxS s.Points s.Points.length))] [Con Tryz.prog 65 [.agg [slPoint false s.Points]] true (agPoint (at_ s.Points 0)) ∧ ((.agg [slPoint false s.Points] : AV) = .agg [slPoint false s.Points]) ∧ True, Con Tryz.prog 66 [.agg [slPoint false s.Points]] true (agPoint (at_ s.Points (s.Points.length - 1))) ∧ ((.agg [slPoint false s.Points] : AV) = .agg [slPoint false s.Points]) ∧ True, Con Tryz.prog 54 [.agg [slPoint false s.Points]] true (agBox (boxS s.Points s.Points.length)) ∧ ((.agg [slPoint false s.Points] : AV) = .agg [slPoint false s.Points]) ∧ True] (by kernel_rfl) hB ⟨⟨(firstOf_ok s ok), rfl, trivial⟩, ⟨(lastOf_ok s ok), rfl, trivial⟩, ⟨(boxOfStroke_ok s ok), rfl, trivial⟩, trivial⟩ ?_
  refine ae_then ?_
  refine aw_seq ?_
  refine aw_reg [] [3, 4, 5, 7, 9, 10, 11, 12] [9, 10, 11] [I (sumS s.Points s.Points.length), I ((revS s.Points s.Points.length).1), I (bendT s), I (strI s), .ref 9 0, .ref 10 0, .ref 11 0, I (((boxS s.Points s.Points.length).Y2) - ((boxS s.Points s.Points.length).Y1))] [some (bxPoint (at_ s.Points 0)), some (bxPoint (at_ s.Points (s.Points.length - 1))), some (bxBox (boxS s.Points s.Points.length))] [inR .i64 (((boxS s.Points s.Points.length).Y2) - ((boxS s.Points s.Points.length).Y1))] (by kernel_rfl) hB ⟨(inR_i64 (by omega) (by omega)), trivial⟩ ?_
  refine ae_then ?_
  refine aw_seq ?_
  refine aw_block ?_
  refine aw_seq ?_
  by_cases h1 : (sumS s.Points s.Points.length) ≤ 160
  ·refine aw_reg [(1, .dec true)] [3, 4, 5, 7, 9, 10, 11, 12, 38] [9, 10, 11] [I (sumS s.Points s.Points.length), I ((revS s.Points s.Points.length).1), I (bendT s), I (strI s), .ref 9 0, .ref 10 0, .ref 11 0, I (((boxS s.Points s.Points.length).Y2) - ((boxS s.Points s.Points.length).Y1)), Bv true] [some (bxPoint (at_ s.Points 0)), some (bxPoint (at_ s.Points (s.Points.length - 1))), some (bxBox (boxS s.Points s.Points.length))] [(sumS s.Points s.Points.length) ≤ 160] (by kernel_rfl) hB ⟨h1, trivial⟩ ?_
   refine ae_then ?_
   refine aw_true rfl ?_
   refine aw_seq ?_
   refine aw_reg [] [2] [] [I 1] [] [] (by kernel_rfl) hB trivial ?_
   refine ae_then ?_
   refine aw_ret ?_
   refine ae_ret_block (ae_ret_then ?_)
   refine ae_ret hB (I 1) (by kernel_rfl) (.inl (by refine congrArg I ?_; unfold gestI endsI caretB; simp_all [hle]; try omega)) rfl (fun _ => trivial)
  ·refine aw_reg [(1, .dec false)] [3, 4, 5, 7, 9, 10, 11, 12, 38] [9, 10, 11] [I (sumS s.Points s.Points.length), I ((revS s.Points s.Points.length).1), I (bendT s), I (strI s), .ref 9 0, .ref 10 0, .ref 11 0, I (((boxS s.Points s.Points.length).Y2) - ((boxS s.Points s.Points.length).Y1)), Bv false] [some (bxPoint (at_ s.Points 0)), some (bxPoint (at_ s.Points (s.Points.length - 1))), some (bxBox (boxS s.Points s.Points.length))] [¬ ((sumS s.Points s.Points.length) ≤ 160)] (by kernel_rfl) hB ⟨h1, trivial⟩ ?_
   refine ae_then ?_
   refine aw_false rfl ?_
   refine aw_seq ?_
   by_cases h2 : 3 ≤ ((revS s.Points s.Points.length).1)
   ·refine aw_reg [(1, .dec true)] [3, 4, 5, 7, 9, 10, 11, 12, 41] [9, 10, 11] [I (sumS s.Points s.Points.length), I ((revS s.Points s.Points.length).1), I (bendT s), I (strI s), .ref 9 0, .ref 10 0, .ref 11 0, I (((boxS s.Points s.Points.length).Y2) - ((boxS s.Points s.Points.length).Y1)), Bv true] [some (bxPoint (at_ s.Points 0)), some (bxPoint (at_ s.Points (s.Points.length - 1))), some (bxBox (boxS s.Points s.Points.length))] [3 ≤ ((revS s.Points s.Points.length).1)] (by kernel_rfl) hB ⟨h2, trivial⟩ ?_
    refine ae_then ?_
    refine aw_true rfl ?_
    refine aw_seq ?_
    refine aw_reg [] [2] [] [I 2] [] [] (by kernel_rfl) hB trivial ?_
    refine ae_then ?_
    refine aw_ret ?_
    refine ae_ret_block (ae_ret_then ?_)
    refine ae_ret hB (I 2) (by kernel_rfl) (.inl (by refine congrArg I ?_; unfold gestI endsI caretB; simp_all [hle]; try omega)) rfl (fun _ => trivial)
   ·refine aw_reg [(1, .dec false)] [3, 4, 5, 7, 9, 10, 11, 12, 41] [9, 10, 11] [I (sumS s.Points s.Points.length), I ((revS s.Points s.Points.length).1), I (bendT s), I (strI s), .ref 9 0, .ref 10 0, .ref 11 0, I (((boxS s.Points s.Points.length).Y2) - ((boxS s.Points s.Points.length).Y1)), Bv false] [some (bxPoint (at_ s.Points 0)), some (bxPoint (at_ s.Points (s.Points.length - 1))), some (bxBox (boxS s.Points s.Points.length))] [¬ (3 ≤ ((revS s.Points s.Points.length).1))] (by kernel_rfl) hB ⟨h2, trivial⟩ ?_
    refine ae_then ?_
    refine aw_false rfl ?_
    refine aw_seq ?_
    by_cases h3 : 6 ≤ ((bendT s).natAbs : Int)
    ·by_cases h4 : (4 * (segI (at_ s.Points 0) (at_ s.Points (s.Points.length - 1)))) ≤ (sumS s.Points s.Points.length)
     ·refine aw_reg [(1, .call [(true, I (bendT s))] true (I ((bendT s).natAbs : Int))), (2, .dec true), (6, .call [(true, agPoint (at_ s.Points 0)), (true, agPoint (at_ s.Points (s.Points.length - 1)))] true (I (segI (at_ s.Points 0) (at_ s.Points (s.Points.length - 1))))), (9, .dec true)] [4, 7, 9, 10, 11, 12, 44] [9, 10, 11] [I ((revS s.Points s.Points.length).1), I (strI s), .ref 9 0, .ref 10 0, .ref 11 0, I (((boxS s.Points s.Points.length).Y2) - ((boxS s.Points s.Points.length).Y1)), Bv true] [some (bxPoint (at_ s.Points 0)), some (bxPoint (at_ s.Points (s.Points.length - 1))), some (bxBox (boxS s.Points s.Points.length))] [Con Tryz.prog 67 [I (bendT s)] true (I ((bendT s).natAbs : Int)) ∧ ((I (bendT s) : AV) = I (bendT s)) ∧ True, 6 ≤ ((bendT s).natAbs : Int), Con Tryz.prog 68 [agPoint (at_ s.Points 0), agPoint (at_ s.Points (s.Points.length - 1))] true (I (segI (at_ s.Points 0) (at_ s.Points (s.Points.length - 1)))) ∧ ((agPoint (at_ s.Points 0) : AV) = agPoint (at_ s.Points 0)) ∧ ((agPoint (at_ s.Points (s.Points.length - 1)) : AV) = agPoint (at_ s.Points (s.Points.length - 1))) ∧ True, inR .i64 (4 * (segI (at_ s.Points 0) (at_ s.Points (s.Points.length - 1)))), (4 * (segI (at_ s.Points 0) (at_ s.Points (s.Points.length - 1)))) ≤ (sumS s.Points s.Points.length)] (by kernel_rfl) hB ⟨⟨(abs_ok (bendT s) (by omega)), rfl, trivial⟩, h3, ⟨(lengthOf_ok (at_ s.Points 0) (at_ s.Points (s.Points.length - 1)) (by assumption) (by assumption)), rfl, rfl, trivial⟩, (inR_i64 (by omega) (by omega)), h4, trivial⟩ ?_
      refine ae_then ?_
      refine aw_true rfl ?_
      refine aw_seq ?_
      refine aw_reg [] [2] [] [I 3] [] [] (by kernel_rfl) hB trivial ?_
      refine ae_then ?_
      refine aw_ret ?_
      refine ae_ret_block (ae_ret_then ?_)
      refine ae_ret hB (I 3) (by kernel_rfl) (.inl (by refine congrArg I ?_; unfold gestI endsI caretB; simp_all [hle]; try omega)) rfl (fun _ => trivial)
     ·refine aw_reg [(1, .call [(true, I (bendT s))] true (I ((bendT s).natAbs : Int))), (2, .dec true), (6, .call [(true, agPoint (at_ s.Points 0)), (true, agPoint (at_ s.Points (s.Points.length - 1)))] true (I (segI (at_ s.Points 0) (at_ s.Points (s.Points.length - 1))))), (9, .dec false)] [4, 7, 9, 10, 11, 12, 44] [9, 10, 11] [I ((revS s.Points s.Points.length).1), I (strI s), .ref 9 0, .ref 10 0, .ref 11 0, I (((boxS s.Points s.Points.length).Y2) - ((boxS s.Points s.Points.length).Y1)), Bv false] [some (bxPoint (at_ s.Points 0)), some (bxPoint (at_ s.Points (s.Points.length - 1))), some (bxBox (boxS s.Points s.Points.length))] [Con Tryz.prog 67 [I (bendT s)] true (I ((bendT s).natAbs : Int)) ∧ ((I (bendT s) : AV) = I (bendT s)) ∧ True, 6 ≤ ((bendT s).natAbs : Int), Con Tryz.prog 68 [agPoint (at_ s.Points 0), agPoint (at_ s.Points (s.Points.length - 1))] true (I (segI (at_ s.Points 0) (at_ s.Points (s.Points.length - 1)))) ∧ ((agPoint (at_ s.Points 0) : AV) = agPoint (at_ s.Points 0)) ∧ ((agPoint (at_ s.Points (s.Points.length - 1)) : AV) = agPoint (at_ s.Points (s.Points.length - 1))) ∧ True, inR .i64 (4 * (segI (at_ s.Points 0) (at_ s.Points (s.Points.length - 1)))), ¬ ((4 * (segI (at_ s.Points 0) (at_ s.Points (s.Points.length - 1)))) ≤ (sumS s.Points s.Points.length))] (by kernel_rfl) hB ⟨⟨(abs_ok (bendT s) (by omega)), rfl, trivial⟩, h3, ⟨(lengthOf_ok (at_ s.Points 0) (at_ s.Points (s.Points.length - 1)) (by assumption) (by assumption)), rfl, rfl, trivial⟩, (inR_i64 (by omega) (by omega)), h4, trivial⟩ ?_
      refine ae_then ?_
      refine aw_false rfl ?_
      refine aw_seq ?_
      by_cases h5 : ((revS s.Points s.Points.length).1) = 0
      ·by_cases h6 : 0 < (((boxS s.Points s.Points.length).Y2) - ((boxS s.Points s.Points.length).Y1))
       ·by_cases h7 : (((boxS s.Points s.Points.length).Y2) - ((boxS s.Points s.Points.length).Y1)) ≤ (2 * (((at_ s.Points 0).Y) - ((boxS s.Points s.Points.length).Y1)))
        ·by_cases h8 : (((boxS s.Points s.Points.length).Y2) - ((boxS s.Points s.Points.length).Y1)) ≤ (2 * (((at_ s.Points (s.Points.length - 1)).Y) - ((boxS s.Points s.Points.length).Y1)))
         ·refine aw_reg [(1, .dec true), (4, .dec true), (14, .dec true), (24, .dec true)] [7, 56] [] [I (strI s), Bv true] [] [((revS s.Points s.Points.length).1) = 0, 0 < (((boxS s.Points s.Points.length).Y2) - ((boxS s.Points s.Points.length).Y1)), inR .i64 (((at_ s.Points 0).Y) - ((boxS s.Points s.Points.length).Y1)), inR .i64 (2 * (((at_ s.Points 0).Y) - ((boxS s.Points s.Points.length).Y1))), (((boxS s.Points s.Points.length).Y2) - ((boxS s.Points s.Points.length).Y1)) ≤ (2 * (((at_ s.Points 0).Y) - ((boxS s.Points s.Points.length).Y1))), inR .i64 (((at_ s.Points (s.Points.length - 1)).Y) - ((boxS s.Points s.Points.length).Y1)), inR .i64 (2 * (((at_ s.Points (s.Points.length - 1)).Y) - ((boxS s.Points s.Points.length).Y1))), (((boxS s.Points s.Points.length).Y2) - ((boxS s.Points s.Points.length).Y1)) ≤ (2 * (((at_ s.Points (s.Points.length - 1)).Y) - ((boxS s.Points s.Points.length).Y1)))] (by kernel_rfl) hB ⟨h5, h6, (inR_i64 (by omega) (by omega)), (inR_i64 (by omega) (by omega)), h7, (inR_i64 (by omega) (by omega)), (inR_i64 (by omega) (by omega)), h8, trivial⟩ ?_
          refine ae_then ?_
          refine aw_true rfl ?_
          refine aw_seq ?_
          refine aw_reg [] [2] [] [I 4] [] [] (by kernel_rfl) hB trivial ?_
          refine ae_then ?_
          refine aw_ret ?_
          refine ae_ret_block (ae_ret_then ?_)
          refine ae_ret hB (I 4) (by kernel_rfl) (.inl (by refine congrArg I ?_; unfold gestI endsI caretB; simp_all [hle]; try omega)) rfl (fun _ => trivial)
         ·refine aw_reg [(1, .dec true), (4, .dec true), (14, .dec true), (24, .dec false)] [7, 56] [] [I (strI s), Bv false] [] [((revS s.Points s.Points.length).1) = 0, 0 < (((boxS s.Points s.Points.length).Y2) - ((boxS s.Points s.Points.length).Y1)), inR .i64 (((at_ s.Points 0).Y) - ((boxS s.Points s.Points.length).Y1)), inR .i64 (2 * (((at_ s.Points 0).Y) - ((boxS s.Points s.Points.length).Y1))), (((boxS s.Points s.Points.length).Y2) - ((boxS s.Points s.Points.length).Y1)) ≤ (2 * (((at_ s.Points 0).Y) - ((boxS s.Points s.Points.length).Y1))), inR .i64 (((at_ s.Points (s.Points.length - 1)).Y) - ((boxS s.Points s.Points.length).Y1)), inR .i64 (2 * (((at_ s.Points (s.Points.length - 1)).Y) - ((boxS s.Points s.Points.length).Y1))), ¬ ((((boxS s.Points s.Points.length).Y2) - ((boxS s.Points s.Points.length).Y1)) ≤ (2 * (((at_ s.Points (s.Points.length - 1)).Y) - ((boxS s.Points s.Points.length).Y1))))] (by kernel_rfl) hB ⟨h5, h6, (inR_i64 (by omega) (by omega)), (inR_i64 (by omega) (by omega)), h7, (inR_i64 (by omega) (by omega)), (inR_i64 (by omega) (by omega)), h8, trivial⟩ ?_
          refine ae_then ?_
          refine aw_false rfl ?_
          refine aw_seq ?_
          by_cases h9 : 900 ≤ (strI s)
          ·refine aw_reg [(1, .dec true)] [83] [] [Bv true] [] [900 ≤ (strI s)] (by kernel_rfl) hB ⟨h9, trivial⟩ ?_
           refine ae_then ?_
           refine aw_true rfl ?_
           refine aw_seq ?_
           refine aw_reg [] [2] [] [I 5] [] [] (by kernel_rfl) hB trivial ?_
           refine ae_then ?_
           refine aw_ret ?_
           refine ae_ret_block (ae_ret_then ?_)
           refine ae_ret hB (I 5) (by kernel_rfl) (.inl (by refine congrArg I ?_; unfold gestI endsI caretB; simp_all [hle]; try omega)) rfl (fun _ => trivial)
          ·refine aw_reg [(1, .dec false)] [83] [] [Bv false] [] [¬ (900 ≤ (strI s))] (by kernel_rfl) hB ⟨h9, trivial⟩ ?_
           refine ae_then ?_
           refine aw_false rfl ?_
           refine aw_skip ?_
           refine ae_block 0 ?_
           refine ae_then ?_
           refine aw_seq ?_
           refine aw_reg [] [2] [] [I 0] [] [] (by kernel_rfl) hB trivial ?_
           refine ae_then ?_
           refine aw_ret ?_
           refine ae_ret hB (I 0) (by kernel_rfl) (.inl (by refine congrArg I ?_; unfold gestI endsI caretB; simp_all [hle]; try omega)) rfl (fun _ => trivial)
        ·refine aw_reg [(1, .dec true), (4, .dec true), (14, .dec false)] [7, 56] [] [I (strI s), Bv false] [] [((revS s.Points s.Points.length).1) = 0, 0 < (((boxS s.Points s.Points.length).Y2) - ((boxS s.Points s.Points.length).Y1)), inR .i64 (((at_ s.Points 0).Y) - ((boxS s.Points s.Points.length).Y1)), inR .i64 (2 * (((at_ s.Points 0).Y) - ((boxS s.Points s.Points.length).Y1))), ¬ ((((boxS s.Points s.Points.length).Y2) - ((boxS s.Points s.Points.length).Y1)) ≤ (2 * (((at_ s.Points 0).Y) - ((boxS s.Points s.Points.length).Y1))))] (by kernel_rfl) hB ⟨h5, h6, (inR_i64 (by omega) (by omega)), (inR_i64 (by omega) (by omega)), h7, trivial⟩ ?_
         refine ae_then ?_
         refine aw_false rfl ?_
         refine aw_seq ?_
         by_cases h10 : 900 ≤ (strI s)
         ·refine aw_reg [(1, .dec true)] [83] [] [Bv true] [] [900 ≤ (strI s)] (by kernel_rfl) hB ⟨h10, trivial⟩ ?_
          refine ae_then ?_
          refine aw_true rfl ?_
          refine aw_seq ?_
          refine aw_reg [] [2] [] [I 5] [] [] (by kernel_rfl) hB trivial ?_
          refine ae_then ?_
          refine aw_ret ?_
          refine ae_ret_block (ae_ret_then ?_)
          refine ae_ret hB (I 5) (by kernel_rfl) (.inl (by refine congrArg I ?_; unfold gestI endsI caretB; simp_all [hle]; try omega)) rfl (fun _ => trivial)
         ·refine aw_reg [(1, .dec false)] [83] [] [Bv false] [] [¬ (900 ≤ (strI s))] (by kernel_rfl) hB ⟨h10, trivial⟩ ?_
          refine ae_then ?_
          refine aw_false rfl ?_
          refine aw_skip ?_
          refine ae_block 0 ?_
          refine ae_then ?_
          refine aw_seq ?_
          refine aw_reg [] [2] [] [I 0] [] [] (by kernel_rfl) hB trivial ?_
          refine ae_then ?_
          refine aw_ret ?_
          refine ae_ret hB (I 0) (by kernel_rfl) (.inl (by refine congrArg I ?_; unfold gestI endsI caretB; simp_all [hle]; try omega)) rfl (fun _ => trivial)
       ·refine aw_reg [(1, .dec true), (4, .dec false)] [7, 56] [] [I (strI s), Bv false] [] [((revS s.Points s.Points.length).1) = 0, ¬ (0 < (((boxS s.Points s.Points.length).Y2) - ((boxS s.Points s.Points.length).Y1)))] (by kernel_rfl) hB ⟨h5, h6, trivial⟩ ?_
        refine ae_then ?_
        refine aw_false rfl ?_
        refine aw_seq ?_
        by_cases h11 : 900 ≤ (strI s)
        ·refine aw_reg [(1, .dec true)] [83] [] [Bv true] [] [900 ≤ (strI s)] (by kernel_rfl) hB ⟨h11, trivial⟩ ?_
         refine ae_then ?_
         refine aw_true rfl ?_
         refine aw_seq ?_
         refine aw_reg [] [2] [] [I 5] [] [] (by kernel_rfl) hB trivial ?_
         refine ae_then ?_
         refine aw_ret ?_
         refine ae_ret_block (ae_ret_then ?_)
         refine ae_ret hB (I 5) (by kernel_rfl) (.inl (by refine congrArg I ?_; unfold gestI endsI caretB; simp_all [hle]; try omega)) rfl (fun _ => trivial)
        ·refine aw_reg [(1, .dec false)] [83] [] [Bv false] [] [¬ (900 ≤ (strI s))] (by kernel_rfl) hB ⟨h11, trivial⟩ ?_
         refine ae_then ?_
         refine aw_false rfl ?_
         refine aw_skip ?_
         refine ae_block 0 ?_
         refine ae_then ?_
         refine aw_seq ?_
         refine aw_reg [] [2] [] [I 0] [] [] (by kernel_rfl) hB trivial ?_
         refine ae_then ?_
         refine aw_ret ?_
         refine ae_ret hB (I 0) (by kernel_rfl) (.inl (by refine congrArg I ?_; unfold gestI endsI caretB; simp_all [hle]; try omega)) rfl (fun _ => trivial)
      ·refine aw_reg [(1, .dec false)] [7, 56] [] [I (strI s), Bv false] [] [¬ (((revS s.Points s.Points.length).1) = 0)] (by kernel_rfl) hB ⟨h5, trivial⟩ ?_
       refine ae_then ?_
       refine aw_false rfl ?_
       refine aw_seq ?_
       by_cases h12 : 900 ≤ (strI s)
       ·refine aw_reg [(1, .dec true)] [83] [] [Bv true] [] [900 ≤ (strI s)] (by kernel_rfl) hB ⟨h12, trivial⟩ ?_
        refine ae_then ?_
        refine aw_true rfl ?_
        refine aw_seq ?_
        refine aw_reg [] [2] [] [I 5] [] [] (by kernel_rfl) hB trivial ?_
        refine ae_then ?_
        refine aw_ret ?_
        refine ae_ret_block (ae_ret_then ?_)
        refine ae_ret hB (I 5) (by kernel_rfl) (.inl (by refine congrArg I ?_; unfold gestI endsI caretB; simp_all [hle]; try omega)) rfl (fun _ => trivial)
       ·refine aw_reg [(1, .dec false)] [83] [] [Bv false] [] [¬ (900 ≤ (strI s))] (by kernel_rfl) hB ⟨h12, trivial⟩ ?_
        refine ae_then ?_
        refine aw_false rfl ?_
        refine aw_skip ?_
        refine ae_block 0 ?_
        refine ae_then ?_
        refine aw_seq ?_
        refine aw_reg [] [2] [] [I 0] [] [] (by kernel_rfl) hB trivial ?_
        refine ae_then ?_
        refine aw_ret ?_
        refine ae_ret hB (I 0) (by kernel_rfl) (.inl (by refine congrArg I ?_; unfold gestI endsI caretB; simp_all [hle]; try omega)) rfl (fun _ => trivial)
    ·refine aw_reg [(1, .call [(true, I (bendT s))] true (I ((bendT s).natAbs : Int))), (2, .dec false)] [4, 7, 9, 10, 11, 12, 44] [9, 10, 11] [I ((revS s.Points s.Points.length).1), I (strI s), .ref 9 0, .ref 10 0, .ref 11 0, I (((boxS s.Points s.Points.length).Y2) - ((boxS s.Points s.Points.length).Y1)), Bv false] [some (bxPoint (at_ s.Points 0)), some (bxPoint (at_ s.Points (s.Points.length - 1))), some (bxBox (boxS s.Points s.Points.length))] [Con Tryz.prog 67 [I (bendT s)] true (I ((bendT s).natAbs : Int)) ∧ ((I (bendT s) : AV) = I (bendT s)) ∧ True, ¬ (6 ≤ ((bendT s).natAbs : Int))] (by kernel_rfl) hB ⟨⟨(abs_ok (bendT s) (by omega)), rfl, trivial⟩, h3, trivial⟩ ?_
     refine ae_then ?_
     refine aw_false rfl ?_
     refine aw_seq ?_
     by_cases h13 : ((revS s.Points s.Points.length).1) = 0
     ·by_cases h14 : 0 < (((boxS s.Points s.Points.length).Y2) - ((boxS s.Points s.Points.length).Y1))
      ·by_cases h15 : (((boxS s.Points s.Points.length).Y2) - ((boxS s.Points s.Points.length).Y1)) ≤ (2 * (((at_ s.Points 0).Y) - ((boxS s.Points s.Points.length).Y1)))
       ·by_cases h16 : (((boxS s.Points s.Points.length).Y2) - ((boxS s.Points s.Points.length).Y1)) ≤ (2 * (((at_ s.Points (s.Points.length - 1)).Y) - ((boxS s.Points s.Points.length).Y1)))
        ·refine aw_reg [(1, .dec true), (4, .dec true), (14, .dec true), (24, .dec true)] [7, 56] [] [I (strI s), Bv true] [] [((revS s.Points s.Points.length).1) = 0, 0 < (((boxS s.Points s.Points.length).Y2) - ((boxS s.Points s.Points.length).Y1)), inR .i64 (((at_ s.Points 0).Y) - ((boxS s.Points s.Points.length).Y1)), inR .i64 (2 * (((at_ s.Points 0).Y) - ((boxS s.Points s.Points.length).Y1))), (((boxS s.Points s.Points.length).Y2) - ((boxS s.Points s.Points.length).Y1)) ≤ (2 * (((at_ s.Points 0).Y) - ((boxS s.Points s.Points.length).Y1))), inR .i64 (((at_ s.Points (s.Points.length - 1)).Y) - ((boxS s.Points s.Points.length).Y1)), inR .i64 (2 * (((at_ s.Points (s.Points.length - 1)).Y) - ((boxS s.Points s.Points.length).Y1))), (((boxS s.Points s.Points.length).Y2) - ((boxS s.Points s.Points.length).Y1)) ≤ (2 * (((at_ s.Points (s.Points.length - 1)).Y) - ((boxS s.Points s.Points.length).Y1)))] (by kernel_rfl) hB ⟨h13, h14, (inR_i64 (by omega) (by omega)), (inR_i64 (by omega) (by omega)), h15, (inR_i64 (by omega) (by omega)), (inR_i64 (by omega) (by omega)), h16, trivial⟩ ?_
         refine ae_then ?_
         refine aw_true rfl ?_
         refine aw_seq ?_
         refine aw_reg [] [2] [] [I 4] [] [] (by kernel_rfl) hB trivial ?_
         refine ae_then ?_
         refine aw_ret ?_
         refine ae_ret_block (ae_ret_then ?_)
         refine ae_ret hB (I 4) (by kernel_rfl) (.inl (by refine congrArg I ?_; unfold gestI endsI caretB; simp_all [hle]; try omega)) rfl (fun _ => trivial)
        ·refine aw_reg [(1, .dec true), (4, .dec true), (14, .dec true), (24, .dec false)] [7, 56] [] [I (strI s), Bv false] [] [((revS s.Points s.Points.length).1) = 0, 0 < (((boxS s.Points s.Points.length).Y2) - ((boxS s.Points s.Points.length).Y1)), inR .i64 (((at_ s.Points 0).Y) - ((boxS s.Points s.Points.length).Y1)), inR .i64 (2 * (((at_ s.Points 0).Y) - ((boxS s.Points s.Points.length).Y1))), (((boxS s.Points s.Points.length).Y2) - ((boxS s.Points s.Points.length).Y1)) ≤ (2 * (((at_ s.Points 0).Y) - ((boxS s.Points s.Points.length).Y1))), inR .i64 (((at_ s.Points (s.Points.length - 1)).Y) - ((boxS s.Points s.Points.length).Y1)), inR .i64 (2 * (((at_ s.Points (s.Points.length - 1)).Y) - ((boxS s.Points s.Points.length).Y1))), ¬ ((((boxS s.Points s.Points.length).Y2) - ((boxS s.Points s.Points.length).Y1)) ≤ (2 * (((at_ s.Points (s.Points.length - 1)).Y) - ((boxS s.Points s.Points.length).Y1))))] (by kernel_rfl) hB ⟨h13, h14, (inR_i64 (by omega) (by omega)), (inR_i64 (by omega) (by omega)), h15, (inR_i64 (by omega) (by omega)), (inR_i64 (by omega) (by omega)), h16, trivial⟩ ?_
         refine ae_then ?_
         refine aw_false rfl ?_
         refine aw_seq ?_
         by_cases h17 : 900 ≤ (strI s)
         ·refine aw_reg [(1, .dec true)] [83] [] [Bv true] [] [900 ≤ (strI s)] (by kernel_rfl) hB ⟨h17, trivial⟩ ?_
          refine ae_then ?_
          refine aw_true rfl ?_
          refine aw_seq ?_
          refine aw_reg [] [2] [] [I 5] [] [] (by kernel_rfl) hB trivial ?_
          refine ae_then ?_
          refine aw_ret ?_
          refine ae_ret_block (ae_ret_then ?_)
          refine ae_ret hB (I 5) (by kernel_rfl) (.inl (by refine congrArg I ?_; unfold gestI endsI caretB; simp_all [hle]; try omega)) rfl (fun _ => trivial)
         ·refine aw_reg [(1, .dec false)] [83] [] [Bv false] [] [¬ (900 ≤ (strI s))] (by kernel_rfl) hB ⟨h17, trivial⟩ ?_
          refine ae_then ?_
          refine aw_false rfl ?_
          refine aw_skip ?_
          refine ae_block 0 ?_
          refine ae_then ?_
          refine aw_seq ?_
          refine aw_reg [] [2] [] [I 0] [] [] (by kernel_rfl) hB trivial ?_
          refine ae_then ?_
          refine aw_ret ?_
          refine ae_ret hB (I 0) (by kernel_rfl) (.inl (by refine congrArg I ?_; unfold gestI endsI caretB; simp_all [hle]; try omega)) rfl (fun _ => trivial)
       ·refine aw_reg [(1, .dec true), (4, .dec true), (14, .dec false)] [7, 56] [] [I (strI s), Bv false] [] [((revS s.Points s.Points.length).1) = 0, 0 < (((boxS s.Points s.Points.length).Y2) - ((boxS s.Points s.Points.length).Y1)), inR .i64 (((at_ s.Points 0).Y) - ((boxS s.Points s.Points.length).Y1)), inR .i64 (2 * (((at_ s.Points 0).Y) - ((boxS s.Points s.Points.length).Y1))), ¬ ((((boxS s.Points s.Points.length).Y2) - ((boxS s.Points s.Points.length).Y1)) ≤ (2 * (((at_ s.Points 0).Y) - ((boxS s.Points s.Points.length).Y1))))] (by kernel_rfl) hB ⟨h13, h14, (inR_i64 (by omega) (by omega)), (inR_i64 (by omega) (by omega)), h15, trivial⟩ ?_
        refine ae_then ?_
        refine aw_false rfl ?_
        refine aw_seq ?_
        by_cases h18 : 900 ≤ (strI s)
        ·refine aw_reg [(1, .dec true)] [83] [] [Bv true] [] [900 ≤ (strI s)] (by kernel_rfl) hB ⟨h18, trivial⟩ ?_
         refine ae_then ?_
         refine aw_true rfl ?_
         refine aw_seq ?_
         refine aw_reg [] [2] [] [I 5] [] [] (by kernel_rfl) hB trivial ?_
         refine ae_then ?_
         refine aw_ret ?_
         refine ae_ret_block (ae_ret_then ?_)
         refine ae_ret hB (I 5) (by kernel_rfl) (.inl (by refine congrArg I ?_; unfold gestI endsI caretB; simp_all [hle]; try omega)) rfl (fun _ => trivial)
        ·refine aw_reg [(1, .dec false)] [83] [] [Bv false] [] [¬ (900 ≤ (strI s))] (by kernel_rfl) hB ⟨h18, trivial⟩ ?_
         refine ae_then ?_
         refine aw_false rfl ?_
         refine aw_skip ?_
         refine ae_block 0 ?_
         refine ae_then ?_
         refine aw_seq ?_
         refine aw_reg [] [2] [] [I 0] [] [] (by kernel_rfl) hB trivial ?_
         refine ae_then ?_
         refine aw_ret ?_
         refine ae_ret hB (I 0) (by kernel_rfl) (.inl (by refine congrArg I ?_; unfold gestI endsI caretB; simp_all [hle]; try omega)) rfl (fun _ => trivial)
      ·refine aw_reg [(1, .dec true), (4, .dec false)] [7, 56] [] [I (strI s), Bv false] [] [((revS s.Points s.Points.length).1) = 0, ¬ (0 < (((boxS s.Points s.Points.length).Y2) - ((boxS s.Points s.Points.length).Y1)))] (by kernel_rfl) hB ⟨h13, h14, trivial⟩ ?_
       refine ae_then ?_
       refine aw_false rfl ?_
       refine aw_seq ?_
       by_cases h19 : 900 ≤ (strI s)
       ·refine aw_reg [(1, .dec true)] [83] [] [Bv true] [] [900 ≤ (strI s)] (by kernel_rfl) hB ⟨h19, trivial⟩ ?_
        refine ae_then ?_
        refine aw_true rfl ?_
        refine aw_seq ?_
        refine aw_reg [] [2] [] [I 5] [] [] (by kernel_rfl) hB trivial ?_
        refine ae_then ?_
        refine aw_ret ?_
        refine ae_ret_block (ae_ret_then ?_)
        refine ae_ret hB (I 5) (by kernel_rfl) (.inl (by refine congrArg I ?_; unfold gestI endsI caretB; simp_all [hle]; try omega)) rfl (fun _ => trivial)
       ·refine aw_reg [(1, .dec false)] [83] [] [Bv false] [] [¬ (900 ≤ (strI s))] (by kernel_rfl) hB ⟨h19, trivial⟩ ?_
        refine ae_then ?_
        refine aw_false rfl ?_
        refine aw_skip ?_
        refine ae_block 0 ?_
        refine ae_then ?_
        refine aw_seq ?_
        refine aw_reg [] [2] [] [I 0] [] [] (by kernel_rfl) hB trivial ?_
        refine ae_then ?_
        refine aw_ret ?_
        refine ae_ret hB (I 0) (by kernel_rfl) (.inl (by refine congrArg I ?_; unfold gestI endsI caretB; simp_all [hle]; try omega)) rfl (fun _ => trivial)
     ·refine aw_reg [(1, .dec false)] [7, 56] [] [I (strI s), Bv false] [] [¬ (((revS s.Points s.Points.length).1) = 0)] (by kernel_rfl) hB ⟨h13, trivial⟩ ?_
      refine ae_then ?_
      refine aw_false rfl ?_
      refine aw_seq ?_
      by_cases h20 : 900 ≤ (strI s)
      ·refine aw_reg [(1, .dec true)] [83] [] [Bv true] [] [900 ≤ (strI s)] (by kernel_rfl) hB ⟨h20, trivial⟩ ?_
       refine ae_then ?_
       refine aw_true rfl ?_
       refine aw_seq ?_
       refine aw_reg [] [2] [] [I 5] [] [] (by kernel_rfl) hB trivial ?_
       refine ae_then ?_
       refine aw_ret ?_
       refine ae_ret_block (ae_ret_then ?_)
       refine ae_ret hB (I 5) (by kernel_rfl) (.inl (by refine congrArg I ?_; unfold gestI endsI caretB; simp_all [hle]; try omega)) rfl (fun _ => trivial)
      ·refine aw_reg [(1, .dec false)] [83] [] [Bv false] [] [¬ (900 ≤ (strI s))] (by kernel_rfl) hB ⟨h20, trivial⟩ ?_
       refine ae_then ?_
       refine aw_false rfl ?_
       refine aw_skip ?_
       refine ae_block 0 ?_
       refine ae_then ?_
       refine aw_seq ?_
       refine aw_reg [] [2] [] [I 0] [] [] (by kernel_rfl) hB trivial ?_
       refine ae_then ?_
       refine aw_ret ?_
       refine ae_ret hB (I 0) (by kernel_rfl) (.inl (by refine congrArg I ?_; unfold gestI endsI caretB; simp_all [hle]; try omega)) rfl (fun _ => trivial)


theorem mul60 {a c : Int} (h1 : 0 ≤ a ∧ a ≤ 60) (h2 : 0 ≤ c ∧ c ≤ 60) : 0 ≤ a * c ∧ a * c ≤ 3600 :=
  ⟨Int.mul_nonneg h1.1 h2.1, Int.le_trans (Int.mul_le_mul h1.2 h2.2 h2.1 (by omega)) (by decide)⟩
theorem mid_eq (k c : Int) : (2 * k + 1) * c = 2 * (k * c) + c := by rw [Int.add_mul, Int.one_mul, Int.mul_assoc]
def spanS (l : CellRow) (b : Box) : Nat → Int × Int
  | 0 => (0, 0)
  | k + 1 => if inB (2 * l.X + (2 * (k : Int) + 1) * l.Cell) (2 * b.X1) (2 * b.X2) = true then (if (spanS l b k).2 = 0 then (k : Int) else (spanS l b k).1, (k : Int) + 1) else spanS l b k
theorem spanS_yes {l : CellRow} {b : Box} {k : Int} (h0 : 0 ≤ k) (h : inB (2 * l.X + (2 * k + 1) * l.Cell) (2 * b.X1) (2 * b.X2) = true) : spanS l b (k + 1).toNat = (if (spanS l b k.toNat).2 = 0 then k else (spanS l b k.toNat).1, k + 1) := by
  have e : (k + 1).toNat = k.toNat + 1 := by omega
  have e2 : ((k.toNat : Nat) : Int) = k := by omega
  rw [e, spanS, e2, if_pos h]
theorem spanS_no {l : CellRow} {b : Box} {k : Int} (h0 : 0 ≤ k) (h : inB (2 * l.X + (2 * k + 1) * l.Cell) (2 * b.X1) (2 * b.X2) = false) : spanS l b (k + 1).toNat = spanS l b k.toNat := by
  have e : (k + 1).toNat = k.toNat + 1 := by omega
  have e2 : ((k.toNat : Nat) : Int) = k := by omega
  rw [e, spanS, e2, if_neg (by rw [h]; decide)]
theorem spanS_bd (l : CellRow) (b : Box) : ∀ k : Nat, ((spanS l b k).1 = 0 ∧ (spanS l b k).2 = 0) ∨ (0 ≤ (spanS l b k).1 ∧ (spanS l b k).1 < (spanS l b k).2 ∧ (spanS l b k).2 ≤ (k : Int))
  | 0 => .inl ⟨rfl, rfl⟩
  | k + 1 => by
    have := spanS_bd l b k
    unfold spanS
    split
    · simp only; split <;> omega
    · omega
def placeS (l : CellRow) (x : Int) : Nat → Int
  | 0 => 0
  | k + 1 => if ((x - l.X - ((k : Int) + 1) * l.Cell).natAbs : Int) < ((x - l.X - placeS l x k * l.Cell).natAbs : Int) then (k : Int) + 1 else placeS l x k
theorem placeS_succ {l : CellRow} {x k : Int} (h : 1 ≤ k) : placeS l x (k + 1 - 1).toNat = if ((x - l.X - k * l.Cell).natAbs : Int) < ((x - l.X - placeS l x (k - 1).toNat * l.Cell).natAbs : Int) then k else placeS l x (k - 1).toNat := by
  have e : (k + 1 - 1).toNat = (k - 1).toNat + 1 := by omega
  have e2 : (((k - 1).toNat : Nat) : Int) + 1 = k := by omega
  rw [e, placeS, e2]
def tipS (xs : List Point) : Nat → Nat
  | 0 => 0
  | k + 1 => if (at_ xs k).Y < (at_ xs (tipS xs k)).Y then k else tipS xs k
theorem tip_1 {xs : List Point} {i b : Int} (h : 0 ≤ i) (hb : b = (tipS xs i.toNat : Int)) : ((tipS xs (i + 1).toNat : Nat) : Int) = if (at_ xs i.toNat).Y < (at_ xs b.toNat).Y then i else b := by
  have e : (i + 1).toNat = i.toNat + 1 := by omega
  have e2 : b.toNat = tipS xs i.toNat := by omega
  rw [e, tipS, e2]; split <;> omega
theorem tip_at {xs : List Point} {i : Int} (h : 0 ≤ i) : at_ xs (tipS xs (i + 1).toNat) = if (at_ xs i.toNat).Y < (at_ xs (tipS xs i.toNat)).Y then at_ xs i.toNat else at_ xs (tipS xs i.toNat) := by
  have e : (i + 1).toNat = i.toNat + 1 := by omega
  rw [e, tipS]; split <;> rfl
theorem tip_one (xs : List Point) : tipS xs 1 = 0 := by simp [tipS]
def kindI (s : Stroke) : Int := if gestI s = 2 then 1 else if gestI s = 3 then 2 else if gestI s = 4 then 3 else 0
/-- The edit that a stroke means, and a code. -/
def editR (l : CellRow) (s : Stroke) : Edit × Int :=
  if kindI s = 0 then (⟨0, 0, 0⟩, 6) else
  if (boxS s.Points s.Points.length).Y2 < l.Y ∨ l.Y + 2 * l.Cell < (boxS s.Points s.Points.length).Y1 then (⟨0, 0, 0⟩, 3) else
  if kindI s = 3 then (⟨3, placeS l (at_ s.Points (tipS s.Points s.Points.length)).X l.Text.size, placeS l (at_ s.Points (tipS s.Points s.Points.length)).X l.Text.size⟩, 0) else
  if (spanS l (boxS s.Points s.Points.length) l.Text.size).2 = 0 then (⟨0, 0, 0⟩, 3) else
  (⟨kindI s, (spanS l (boxS s.Points s.Points.length) l.Text.size).1, (spanS l (boxS s.Points s.Points.length) l.Text.size).2⟩, 0)
def editOfR (l : CellRow) (s : Stroke) : Edit × Int := if okRow l = true ∧ okStroke' s = true then editR l s else (⟨0, 0, 0⟩, 1)
theorem editOf_eq {l : CellRow} {s : Stroke} (h1 : okRow l = true) (h2 : okStroke' s = true) : editOfR l s = editR l s := if_pos ⟨h1, h2⟩

theorem tip_lt' (xs : List Point) : ∀ k : Nat, tipS xs k < max 1 k
  | 0 => by simp [tipS]
  | k + 1 => by
    have := tip_lt' xs k
    unfold tipS; split <;> omega
theorem tip_lt {xs : List Point} (h : 0 < xs.length) : tipS xs xs.length < xs.length := by
  have := tip_lt' xs xs.length
  omega
end Go.Proofs.YtebcbkejkpjeoaaGreatDoor.Ax
