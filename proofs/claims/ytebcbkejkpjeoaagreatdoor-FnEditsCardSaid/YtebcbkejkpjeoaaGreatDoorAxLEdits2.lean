/- Contracts that the statement FnEdits reaches, part 2. No conditions. -/
import Derived.Test.YtebcbkejkpjeoaaGreatDoorAxLEdits1
import Derived.LaidMore
import Derived.Lay
import Derived.OpenShut
import Derived.SevenTiedAt
import Derived.Shelf.Strings.SlTrimAscii
import Derived.Stop.Joined
namespace Go.Proofs.YtebcbkejkpjeoaaGreatDoor.Ax
open Go.RowKit Go.ChangeShapes Go.WideShapes
set_option linter.unusedVariables false
set_option linter.unusedSimpArgs false


-- impl.ApplyEdit
theorem implApplyEdit_ok (l : CellRow) (e : Edit) (insert : ByteArray) (okl : l.Text.size ≤ 9223372036854775807) (oki : insert.size ≤ 1048576) : Con Tryz.prog 23 [agCellRow l, agEdit e, Sv insert] true (.tup [agCellRow (applyRow l e insert), I (chkI l e insert)]) := by
  have hnil := ba_nil
  refine fn_ok (fn := Tryz.f23) (nt := 82) Tryz.func23 rfl rfl rfl rfl (by simp [taggedL, tagged]) fun B hB => ?_
  refine aw_seq ?_
  refine aw_reg [(0, .new 3), (1, .new 4), (2, .new 6)] [2, 3, 4, 6] [3, 4, 6] [Sv insert, .ref 3 0, .ref 4 0, .ref 6 0] [some (bxCellRow l), some (bxEdit e), some (.box [Sv (⟨#[]⟩ : ByteArray), I 0, I 0, I 0])] [] (by kernel_rfl) hB trivial ?_
  refine ae_then ?_
  refine aw_seq ?_
  refine aw_seq ?_
  rcases Bool.eq_false_or_eq_true (okRow l) with h1 | h1
  ·have hr := okRow_iff.1 h1
   rcases Bool.eq_false_or_eq_true (lettersB insert) with h2 | h2
   ·rcases Bool.eq_false_or_eq_true (inB e.Kind 1 3) with h3 | h3
    ·have hinh3 := inB_iff.1 h3
     refine aw_reg [(1, .call [(true, agCellRow l)] true (Bv true)), (5, .call [(true, Sv insert)] true (Bv true)), (11, .call [(true, I e.Kind), (true, I 1), (true, I 3)] true (Bv true))] [2, 3, 4, 6, 21] [3, 4, 6] [Sv insert, .ref 3 0, .ref 4 0, .ref 6 0, Bv false] [some (bxCellRow l), some (bxEdit e), some (.box [Sv (⟨#[]⟩ : ByteArray), I 0, I 0, I 0])] [Con Tryz.prog 17 [agCellRow l] true (Bv true) ∧ ((agCellRow l : AV) = agCellRow l) ∧ True, Con Tryz.prog 48 [Sv insert] true (Bv true) ∧ ((Sv insert : AV) = Sv insert) ∧ True, Con Tryz.prog 44 [I e.Kind, I 1, I 3] true (Bv true) ∧ ((I e.Kind : AV) = I e.Kind) ∧ ((I 1 : AV) = I 1) ∧ ((I 3 : AV) = I 3) ∧ True] (by kernel_rfl) hB ⟨⟨(con_bool h1 (ValidCellRow_ok l okl)), rfl, trivial⟩, ⟨(con_bool h2 (areCells_ok insert (by omega))), rfl, trivial⟩, ⟨(con_bool h3 (within_ok e.Kind 1 3)), rfl, rfl, rfl, trivial⟩, trivial⟩ ?_
     refine ae_then ?_
     refine aw_false rfl ?_
     refine aw_skip ?_
     refine ae_then ?_
     refine aw_seq ?_
     refine aw_seq ?_
     rcases Bool.eq_false_or_eq_true (inB e.From 0 e.To) with h4 | h4
     ·have hinh4 := inB_iff.1 h4
      by_cases h5 : (l.Text.size : Int) < e.To
      ·refine aw_reg [(4, .call [(true, I e.From), (true, I 0), (true, I e.To)] true (Bv true)), (12, .dec true)] [2, 3, 4, 6, 48] [3, 4, 6] [Sv insert, .ref 3 0, .ref 4 0, .ref 6 0, Bv true] [some (bxCellRow l), some (bxEdit e), some (.box [Sv (⟨#[]⟩ : ByteArray), I 0, I 0, I 0])] [Con Tryz.prog 44 [I e.From, I 0, I e.To] true (Bv true) ∧ ((I e.From : AV) = I e.From) ∧ ((I 0 : AV) = I 0) ∧ ((I e.To : AV) = I e.To) ∧ True, (l.Text.size : Int) < e.To] (by kernel_rfl) hB ⟨⟨(con_bool h4 (within_ok e.From 0 e.To)), rfl, rfl, rfl, trivial⟩, h5, trivial⟩ ?_
       refine ae_then ?_
       refine aw_true rfl ?_
       refine aw_seq ?_
       refine aw_reg [] [6, 7] [6] [.ref 6 0, I 2] [some (.box [Sv (⟨#[]⟩ : ByteArray), I 0, I 0, I 0])] [] (by kernel_rfl) hB trivial ?_
       refine ae_then ?_
       refine aw_ret ?_
       refine ae_ret_then ?_
       refine ae_ret hB (.tup [.agg [Sv (⟨#[]⟩ : ByteArray), I 0, I 0, I 0], I 2]) (by kernel_rfl) (.inl (by first | (have hk : chkI l e insert = 1 := chk_1 (by simp [*]); rw [applyRow_ne hk (by decide), hk]; done) | (have hk : chkI l e insert = 2 := chk_2 (by assumption) (by assumption) (by assumption) (by omega); rw [applyRow_ne hk (by decide), hk]; done) | (have hk : chkI l e insert = 5 := chk_5 (by assumption) (by assumption) (by assumption) (by omega) (by omega); rw [applyRow_ne hk (by decide), hk]; done) | (have hk : chkI l e insert = 0 := chk_0 (by assumption) (by assumption) (by assumption) (by omega) (by omega); rw [applyRow_eq hk, hk]; simp [applyL, applyT, *]; done) | (exfalso; omega))) rfl (fun _ => (by simp [tagged, taggedL]))
      ·by_cases h6 : e.Kind = 3
       ·by_cases h7 : e.From = e.To
        ·refine aw_reg [(4, .call [(true, I e.From), (true, I 0), (true, I e.To)] true (Bv true)), (12, .dec false), (17, .dec true), (23, .dec false)] [2, 3, 4, 6, 48] [3, 4, 6] [Sv insert, .ref 3 0, .ref 4 0, .ref 6 0, Bv false] [some (bxCellRow l), some (bxEdit e), some (.box [Sv (⟨#[]⟩ : ByteArray), I 0, I 0, I 0])] [Con Tryz.prog 44 [I e.From, I 0, I e.To] true (Bv true) ∧ ((I e.From : AV) = I e.From) ∧ ((I 0 : AV) = I 0) ∧ ((I e.To : AV) = I e.To) ∧ True, ¬ ((l.Text.size : Int) < e.To), e.Kind = 3, ¬ (e.From ≠ e.To)] (by kernel_rfl) hB ⟨⟨(con_bool h4 (within_ok e.From 0 e.To)), rfl, rfl, rfl, trivial⟩, h5, h6, (fun hq => hq h7), trivial⟩ ?_
         refine ae_then ?_
         refine aw_false rfl ?_
         refine aw_skip ?_
         refine ae_then ?_
         refine aw_seq ?_
         refine aw_seq ?_
         by_cases h8 : e.Kind = 1
         ·refine aw_reg [(2, .dec true)] [2, 3, 4, 6, 52] [3, 4, 6] [Sv insert, .ref 3 0, .ref 4 0, .ref 6 0, Bv true] [some (bxCellRow l), some (bxEdit e), some (.box [Sv (⟨#[]⟩ : ByteArray), I 0, I 0, I 0])] [e.Kind = 1] (by kernel_rfl) hB ⟨h8, trivial⟩ ?_
          refine ae_then ?_
          refine aw_true rfl ?_
          refine aw_reg [] [2, 3, 4, 6] [3, 4, 6] [Sv (⟨#[]⟩ : ByteArray), .ref 3 0, .ref 4 0, .ref 6 0] [some (bxCellRow l), some (bxEdit e), some (.box [Sv (⟨#[]⟩ : ByteArray), I 0, I 0, I 0])] [] (by kernel_rfl) hB trivial ?_
          refine ae_then ?_
          refine aw_seq ?_
          refine aw_seq ?_
          by_cases h9 : 60 < (((l.Text.size : Int) + ((⟨#[]⟩ : ByteArray).size : Int)) - (e.To - e.From))
          ·refine aw_reg [(12, .dec true)] [2, 3, 4, 6, 65] [3, 4, 6] [Sv (⟨#[]⟩ : ByteArray), .ref 3 0, .ref 4 0, .ref 6 0, Bv true] [some (bxCellRow l), some (bxEdit e), some (.box [Sv (⟨#[]⟩ : ByteArray), I 0, I 0, I 0])] [inR .i64 ((l.Text.size : Int) + ((⟨#[]⟩ : ByteArray).size : Int)), inR .i64 (e.To - e.From), inR .i64 (((l.Text.size : Int) + ((⟨#[]⟩ : ByteArray).size : Int)) - (e.To - e.From)), 60 < (((l.Text.size : Int) + ((⟨#[]⟩ : ByteArray).size : Int)) - (e.To - e.From))] (by kernel_rfl) hB ⟨(inR_i64 (by omega) (by omega)), (inR_i64 (by omega) (by omega)), (inR_i64 (by omega) (by omega)), h9, trivial⟩ ?_
           refine ae_then ?_
           refine aw_true rfl ?_
           refine aw_seq ?_
           refine aw_reg [] [6, 7] [6] [.ref 6 0, I 5] [some (.box [Sv (⟨#[]⟩ : ByteArray), I 0, I 0, I 0])] [] (by kernel_rfl) hB trivial ?_
           refine ae_then ?_
           refine aw_ret ?_
           refine ae_ret_then ?_
           refine ae_ret hB (.tup [.agg [Sv (⟨#[]⟩ : ByteArray), I 0, I 0, I 0], I 5]) (by kernel_rfl) (.inl (by first | (have hk : chkI l e insert = 1 := chk_1 (by simp [*]); rw [applyRow_ne hk (by decide), hk]; done) | (have hk : chkI l e insert = 2 := chk_2 (by assumption) (by assumption) (by assumption) (by omega); rw [applyRow_ne hk (by decide), hk]; done) | (have hk : chkI l e insert = 5 := chk_5 (by assumption) (by assumption) (by assumption) (by omega) (by omega); rw [applyRow_ne hk (by decide), hk]; done) | (have hk : chkI l e insert = 0 := chk_0 (by assumption) (by assumption) (by assumption) (by omega) (by omega); rw [applyRow_eq hk, hk]; simp [applyL, applyT, *]; done) | (exfalso; omega))) rfl (fun _ => (by simp [tagged, taggedL]))
          ·refine aw_reg [(12, .dec false)] [2, 3, 4, 6, 65] [3, 4, 6] [Sv (⟨#[]⟩ : ByteArray), .ref 3 0, .ref 4 0, .ref 6 0, Bv false] [some (bxCellRow l), some (bxEdit e), some (.box [Sv (⟨#[]⟩ : ByteArray), I 0, I 0, I 0])] [inR .i64 ((l.Text.size : Int) + ((⟨#[]⟩ : ByteArray).size : Int)), inR .i64 (e.To - e.From), inR .i64 (((l.Text.size : Int) + ((⟨#[]⟩ : ByteArray).size : Int)) - (e.To - e.From)), ¬ (60 < (((l.Text.size : Int) + ((⟨#[]⟩ : ByteArray).size : Int)) - (e.To - e.From)))] (by kernel_rfl) hB ⟨(inR_i64 (by omega) (by omega)), (inR_i64 (by omega) (by omega)), (inR_i64 (by omega) (by omega)), h9, trivial⟩ ?_
           refine ae_then ?_
           refine aw_false rfl ?_
           refine aw_skip ?_
           refine ae_then ?_
           refine aw_seq ?_
           refine aw_reg [] [3, 6] [3, 6] [.ref 3 0, .ref 6 0] [some (.box [Sv (((l.Text.extract 0 e.From.toNat) ++ (⟨#[]⟩ : ByteArray)) ++ (l.Text.extract e.To.toNat (l.Text.size : Int).toNat)), I l.X, I l.Y, I l.Cell]), some (.box [Sv (⟨#[]⟩ : ByteArray), I 0, I 0, I 0])] [(0 : Int) ≤ 0 ∧ (0 : Int) ≤ e.From ∧ e.From ≤ (l.Text.size : Int), (l.Text.extract 0 e.From.toNat).size + (⟨#[]⟩ : ByteArray).size ≤ 9223372036854775807, (0 : Int) ≤ e.To ∧ e.To ≤ (l.Text.size : Int) ∧ (l.Text.size : Int) ≤ (l.Text.size : Int), ((l.Text.extract 0 e.From.toNat) ++ (⟨#[]⟩ : ByteArray)).size + (l.Text.extract e.To.toNat (l.Text.size : Int).toNat).size ≤ 9223372036854775807] (by kernel_rfl) hB ⟨⟨(by omega), (by omega), (by omega)⟩, (by first | omega | (simp only [ByteArray.size_append, ba_ext, ba_nil]; omega)), ⟨(by omega), (by omega), (by omega)⟩, (by first | omega | (simp only [ByteArray.size_append, ba_ext, ba_nil]; omega)), trivial⟩ ?_
           refine ae_then ?_
           refine aw_seq ?_
           refine aw_reg [] [6, 7] [6] [.ref 6 0, I 0] [some (.box [Sv (((l.Text.extract 0 e.From.toNat) ++ (⟨#[]⟩ : ByteArray)) ++ (l.Text.extract e.To.toNat (l.Text.size : Int).toNat)), I l.X, I l.Y, I l.Cell])] [] (by kernel_rfl) hB trivial ?_
           refine ae_then ?_
           refine aw_ret ?_
           refine ae_ret hB (.tup [.agg [Sv (((l.Text.extract 0 e.From.toNat) ++ (⟨#[]⟩ : ByteArray)) ++ (l.Text.extract e.To.toNat (l.Text.size : Int).toNat)), I l.X, I l.Y, I l.Cell], I 0]) (by kernel_rfl) (.inl (by first | (have hk : chkI l e insert = 1 := chk_1 (by simp [*]); rw [applyRow_ne hk (by decide), hk]; done) | (have hk : chkI l e insert = 2 := chk_2 (by assumption) (by assumption) (by assumption) (by omega); rw [applyRow_ne hk (by decide), hk]; done) | (have hk : chkI l e insert = 5 := chk_5 (by assumption) (by assumption) (by assumption) (by omega) (by omega); rw [applyRow_ne hk (by decide), hk]; done) | (have hk : chkI l e insert = 0 := chk_0 (by assumption) (by assumption) (by assumption) (by omega) (by omega); rw [applyRow_eq hk, hk]; simp [applyL, applyT, *]; done) | (exfalso; omega))) rfl (fun _ => (by simp [tagged, taggedL]))
         ·refine aw_reg [(2, .dec false)] [2, 3, 4, 6, 52] [3, 4, 6] [Sv insert, .ref 3 0, .ref 4 0, .ref 6 0, Bv false] [some (bxCellRow l), some (bxEdit e), some (.box [Sv (⟨#[]⟩ : ByteArray), I 0, I 0, I 0])] [¬ (e.Kind = 1)] (by kernel_rfl) hB ⟨h8, trivial⟩ ?_
          refine ae_then ?_
          refine aw_false rfl ?_
          refine aw_skip ?_
          refine ae_then ?_
          refine aw_seq ?_
          refine aw_seq ?_
          by_cases h10 : 60 < (((l.Text.size : Int) + (insert.size : Int)) - (e.To - e.From))
          ·refine aw_reg [(12, .dec true)] [2, 3, 4, 6, 65] [3, 4, 6] [Sv insert, .ref 3 0, .ref 4 0, .ref 6 0, Bv true] [some (bxCellRow l), some (bxEdit e), some (.box [Sv (⟨#[]⟩ : ByteArray), I 0, I 0, I 0])] [inR .i64 ((l.Text.size : Int) + (insert.size : Int)), inR .i64 (e.To - e.From), inR .i64 (((l.Text.size : Int) + (insert.size : Int)) - (e.To - e.From)), 60 < (((l.Text.size : Int) + (insert.size : Int)) - (e.To - e.From))] (by kernel_rfl) hB ⟨(inR_i64 (by omega) (by omega)), (inR_i64 (by omega) (by omega)), (inR_i64 (by omega) (by omega)), h10, trivial⟩ ?_
           refine ae_then ?_
           refine aw_true rfl ?_
           refine aw_seq ?_
           refine aw_reg [] [6, 7] [6] [.ref 6 0, I 5] [some (.box [Sv (⟨#[]⟩ : ByteArray), I 0, I 0, I 0])] [] (by kernel_rfl) hB trivial ?_
           refine ae_then ?_
           refine aw_ret ?_
           refine ae_ret_then ?_
           refine ae_ret hB (.tup [.agg [Sv (⟨#[]⟩ : ByteArray), I 0, I 0, I 0], I 5]) (by kernel_rfl) (.inl (by first | (have hk : chkI l e insert = 1 := chk_1 (by simp [*]); rw [applyRow_ne hk (by decide), hk]; done) | (have hk : chkI l e insert = 2 := chk_2 (by assumption) (by assumption) (by assumption) (by omega); rw [applyRow_ne hk (by decide), hk]; done) | (have hk : chkI l e insert = 5 := chk_5 (by assumption) (by assumption) (by assumption) (by omega) (by omega); rw [applyRow_ne hk (by decide), hk]; done) | (have hk : chkI l e insert = 0 := chk_0 (by assumption) (by assumption) (by assumption) (by omega) (by omega); rw [applyRow_eq hk, hk]; simp [applyL, applyT, *]; done) | (exfalso; omega))) rfl (fun _ => (by simp [tagged, taggedL]))
          ·refine aw_reg [(12, .dec false)] [2, 3, 4, 6, 65] [3, 4, 6] [Sv insert, .ref 3 0, .ref 4 0, .ref 6 0, Bv false] [some (bxCellRow l), some (bxEdit e), some (.box [Sv (⟨#[]⟩ : ByteArray), I 0, I 0, I 0])] [inR .i64 ((l.Text.size : Int) + (insert.size : Int)), inR .i64 (e.To - e.From), inR .i64 (((l.Text.size : Int) + (insert.size : Int)) - (e.To - e.From)), ¬ (60 < (((l.Text.size : Int) + (insert.size : Int)) - (e.To - e.From)))] (by kernel_rfl) hB ⟨(inR_i64 (by omega) (by omega)), (inR_i64 (by omega) (by omega)), (inR_i64 (by omega) (by omega)), h10, trivial⟩ ?_
           refine ae_then ?_
           refine aw_false rfl ?_
           refine aw_skip ?_
           refine ae_then ?_
           refine aw_seq ?_
           refine aw_reg [] [3, 6] [3, 6] [.ref 3 0, .ref 6 0] [some (.box [Sv (((l.Text.extract 0 e.From.toNat) ++ insert) ++ (l.Text.extract e.To.toNat (l.Text.size : Int).toNat)), I l.X, I l.Y, I l.Cell]), some (.box [Sv (⟨#[]⟩ : ByteArray), I 0, I 0, I 0])] [(0 : Int) ≤ 0 ∧ (0 : Int) ≤ e.From ∧ e.From ≤ (l.Text.size : Int), (l.Text.extract 0 e.From.toNat).size + insert.size ≤ 9223372036854775807, (0 : Int) ≤ e.To ∧ e.To ≤ (l.Text.size : Int) ∧ (l.Text.size : Int) ≤ (l.Text.size : Int), ((l.Text.extract 0 e.From.toNat) ++ insert).size + (l.Text.extract e.To.toNat (l.Text.size : Int).toNat).size ≤ 9223372036854775807] (by kernel_rfl) hB ⟨⟨(by omega), (by omega), (by omega)⟩, (by first | omega | (simp only [ByteArray.size_append, ba_ext, ba_nil]; omega)), ⟨(by omega), (by omega), (by omega)⟩, (by first | omega | (simp only [ByteArray.size_append, ba_ext, ba_nil]; omega)), trivial⟩ ?_
           refine ae_then ?_
           refine aw_seq ?_
           refine aw_reg [] [6, 7] [6] [.ref 6 0, I 0] [some (.box [Sv (((l.Text.extract 0 e.From.toNat) ++ insert) ++ (l.Text.extract e.To.toNat (l.Text.size : Int).toNat)), I l.X, I l.Y, I l.Cell])] [] (by kernel_rfl) hB trivial ?_
           refine ae_then ?_
           refine aw_ret ?_
           refine ae_ret hB (.tup [.agg [Sv (((l.Text.extract 0 e.From.toNat) ++ insert) ++ (l.Text.extract e.To.toNat (l.Text.size : Int).toNat)), I l.X, I l.Y, I l.Cell], I 0]) (by kernel_rfl) (.inl (by first | (have hk : chkI l e insert = 1 := chk_1 (by simp [*]); rw [applyRow_ne hk (by decide), hk]; done) | (have hk : chkI l e insert = 2 := chk_2 (by assumption) (by assumption) (by assumption) (by omega); rw [applyRow_ne hk (by decide), hk]; done) | (have hk : chkI l e insert = 5 := chk_5 (by assumption) (by assumption) (by assumption) (by omega) (by omega); rw [applyRow_ne hk (by decide), hk]; done) | (have hk : chkI l e insert = 0 := chk_0 (by assumption) (by assumption) (by assumption) (by omega) (by omega); rw [applyRow_eq hk, hk]; simp [applyL, applyT, *]; done) | (exfalso; omega))) rfl (fun _ => (by simp [tagged, taggedL]))
        ·refine aw_reg [(4, .call [(true, I e.From), (true, I 0), (true, I e.To)] true (Bv true)), (12, .dec false), (17, .dec true), (23, .dec true)] [2, 3, 4, 6, 48] [3, 4, 6] [Sv insert, .ref 3 0, .ref 4 0, .ref 6 0, Bv true] [some (bxCellRow l), some (bxEdit e), some (.box [Sv (⟨#[]⟩ : ByteArray), I 0, I 0, I 0])] [Con Tryz.prog 44 [I e.From, I 0, I e.To] true (Bv true) ∧ ((I e.From : AV) = I e.From) ∧ ((I 0 : AV) = I 0) ∧ ((I e.To : AV) = I e.To) ∧ True, ¬ ((l.Text.size : Int) < e.To), e.Kind = 3, e.From ≠ e.To] (by kernel_rfl) hB ⟨⟨(con_bool h4 (within_ok e.From 0 e.To)), rfl, rfl, rfl, trivial⟩, h5, h6, h7, trivial⟩ ?_
         refine ae_then ?_
         refine aw_true rfl ?_
         refine aw_seq ?_
         refine aw_reg [] [6, 7] [6] [.ref 6 0, I 2] [some (.box [Sv (⟨#[]⟩ : ByteArray), I 0, I 0, I 0])] [] (by kernel_rfl) hB trivial ?_
         refine ae_then ?_
         refine aw_ret ?_
         refine ae_ret_then ?_
         refine ae_ret hB (.tup [.agg [Sv (⟨#[]⟩ : ByteArray), I 0, I 0, I 0], I 2]) (by kernel_rfl) (.inl (by first | (have hk : chkI l e insert = 1 := chk_1 (by simp [*]); rw [applyRow_ne hk (by decide), hk]; done) | (have hk : chkI l e insert = 2 := chk_2 (by assumption) (by assumption) (by assumption) (by omega); rw [applyRow_ne hk (by decide), hk]; done) | (have hk : chkI l e insert = 5 := chk_5 (by assumption) (by assumption) (by assumption) (by omega) (by omega); rw [applyRow_ne hk (by decide), hk]; done) | (have hk : chkI l e insert = 0 := chk_0 (by assumption) (by assumption) (by assumption) (by omega) (by omega); rw [applyRow_eq hk, hk]; simp [applyL, applyT, *]; done) | (exfalso; omega))) rfl (fun _ => (by simp [tagged, taggedL]))
       ·refine aw_reg [(4, .call [(true, I e.From), (true, I 0), (true, I e.To)] true (Bv true)), (12, .dec false), (17, .dec false)] [2, 3, 4, 6, 48] [3, 4, 6] [Sv insert, .ref 3 0, .ref 4 0, .ref 6 0, Bv false] [some (bxCellRow l), some (bxEdit e), some (.box [Sv (⟨#[]⟩ : ByteArray), I 0, I 0, I 0])] [Con Tryz.prog 44 [I e.From, I 0, I e.To] true (Bv true) ∧ ((I e.From : AV) = I e.From) ∧ ((I 0 : AV) = I 0) ∧ ((I e.To : AV) = I e.To) ∧ True, ¬ ((l.Text.size : Int) < e.To), ¬ (e.Kind = 3)] (by kernel_rfl) hB ⟨⟨(con_bool h4 (within_ok e.From 0 e.To)), rfl, rfl, rfl, trivial⟩, h5, h6, trivial⟩ ?_
        refine ae_then ?_
        refine aw_false rfl ?_
        refine aw_skip ?_
        refine ae_then ?_
        refine aw_seq ?_
        refine aw_seq ?_
        by_cases h11 : e.Kind = 1
        ·refine aw_reg [(2, .dec true)] [2, 3, 4, 6, 52] [3, 4, 6] [Sv insert, .ref 3 0, .ref 4 0, .ref 6 0, Bv true] [some (bxCellRow l), some (bxEdit e), some (.box [Sv (⟨#[]⟩ : ByteArray), I 0, I 0, I 0])] [e.Kind = 1] (by kernel_rfl) hB ⟨h11, trivial⟩ ?_
         refine ae_then ?_
         refine aw_true rfl ?_
         refine aw_reg [] [2, 3, 4, 6] [3, 4, 6] [Sv (⟨#[]⟩ : ByteArray), .ref 3 0, .ref 4 0, .ref 6 0] [some (bxCellRow l), some (bxEdit e), some (.box [Sv (⟨#[]⟩ : ByteArray), I 0, I 0, I 0])] [] (by kernel_rfl) hB trivial ?_
         refine ae_then ?_
         refine aw_seq ?_
         refine aw_seq ?_
         by_cases h12 : 60 < (((l.Text.size : Int) + ((⟨#[]⟩ : ByteArray).size : Int)) - (e.To - e.From))
         ·refine aw_reg [(12, .dec true)] [2, 3, 4, 6, 65] [3, 4, 6] [Sv (⟨#[]⟩ : ByteArray), .ref 3 0, .ref 4 0, .ref 6 0, Bv true] [some (bxCellRow l), some (bxEdit e), some (.box [Sv (⟨#[]⟩ : ByteArray), I 0, I 0, I 0])] [inR .i64 ((l.Text.size : Int) + ((⟨#[]⟩ : ByteArray).size : Int)), inR .i64 (e.To - e.From), inR .i64 (((l.Text.size : Int) + ((⟨#[]⟩ : ByteArray).size : Int)) - (e.To - e.From)), 60 < (((l.Text.size : Int) + ((⟨#[]⟩ : ByteArray).size : Int)) - (e.To - e.From))] (by kernel_rfl) hB ⟨(inR_i64 (by omega) (by omega)), (inR_i64 (by omega) (by omega)), (inR_i64 (by omega) (by omega)), h12, trivial⟩ ?_
          refine ae_then ?_
          refine aw_true rfl ?_
          refine aw_seq ?_
          refine aw_reg [] [6, 7] [6] [.ref 6 0, I 5] [some (.box [Sv (⟨#[]⟩ : ByteArray), I 0, I 0, I 0])] [] (by kernel_rfl) hB trivial ?_
          refine ae_then ?_
          refine aw_ret ?_
          refine ae_ret_then ?_
          refine ae_ret hB (.tup [.agg [Sv (⟨#[]⟩ : ByteArray), I 0, I 0, I 0], I 5]) (by kernel_rfl) (.inl (by first | (have hk : chkI l e insert = 1 := chk_1 (by simp [*]); rw [applyRow_ne hk (by decide), hk]; done) | (have hk : chkI l e insert = 2 := chk_2 (by assumption) (by assumption) (by assumption) (by omega); rw [applyRow_ne hk (by decide), hk]; done) | (have hk : chkI l e insert = 5 := chk_5 (by assumption) (by assumption) (by assumption) (by omega) (by omega); rw [applyRow_ne hk (by decide), hk]; done) | (have hk : chkI l e insert = 0 := chk_0 (by assumption) (by assumption) (by assumption) (by omega) (by omega); rw [applyRow_eq hk, hk]; simp [applyL, applyT, *]; done) | (exfalso; omega))) rfl (fun _ => (by simp [tagged, taggedL]))
         ·refine aw_reg [(12, .dec false)] [2, 3, 4, 6, 65] [3, 4, 6] [Sv (⟨#[]⟩ : ByteArray), .ref 3 0, .ref 4 0, .ref 6 0, Bv false] [some (bxCellRow l), some (bxEdit e), some (.box [Sv (⟨#[]⟩ : ByteArray), I 0, I 0, I 0])] [inR .i64 ((l.Text.size : Int) + ((⟨#[]⟩ : ByteArray).size : Int)), inR .i64 (e.To - e.From), inR .i64 (((l.Text.size : Int) + ((⟨#[]⟩ : ByteArray).size : Int)) - (e.To - e.From)), ¬ (60 < (((l.Text.size : Int) + ((⟨#[]⟩ : ByteArray).size : Int)) - (e.To - e.From)))] (by kernel_rfl) hB ⟨(inR_i64 (by omega) (by omega)), (inR_i64 (by omega) (by omega)), (inR_i64 (by omega) (by omega)), h12, trivial⟩ ?_
          refine ae_then ?_
          refine aw_false rfl ?_
          refine aw_skip ?_
          refine ae_then ?_
          refine aw_seq ?_
          refine aw_reg [] [3, 6] [3, 6] [.ref 3 0, .ref 6 0] [some (.box [Sv (((l.Text.extract 0 e.From.toNat) ++ (⟨#[]⟩ : ByteArray)) ++ (l.Text.extract e.To.toNat (l.Text.size : Int).toNat)), I l.X, I l.Y, I l.Cell]), some (.box [Sv (⟨#[]⟩ : ByteArray), I 0, I 0, I 0])] [(0 : Int) ≤ 0 ∧ (0 : Int) ≤ e.From ∧ e.From ≤ (l.Text.size : Int), (l.Text.extract 0 e.From.toNat).size + (⟨#[]⟩ : ByteArray).size ≤ 9223372036854775807, (0 : Int) ≤ e.To ∧ e.To ≤ (l.Text.size : Int) ∧ (l.Text.size : Int) ≤ (l.Text.size : Int), ((l.Text.extract 0 e.From.toNat) ++ (⟨#[]⟩ : ByteArray)).size + (l.Text.extract e.To.toNat (l.Text.size : Int).toNat).size ≤ 9223372036854775807] (by kernel_rfl) hB ⟨⟨(by omega), (by omega), (by omega)⟩, (by first | omega | (simp only [ByteArray.size_append, ba_ext, ba_nil]; omega)), ⟨(by omega), (by omega), (by omega)⟩, (by first | omega | (simp only [ByteArray.size_append, ba_ext, ba_nil]; omega)), trivial⟩ ?_
          refine ae_then ?_
          refine aw_seq ?_
          refine aw_reg [] [6, 7] [6] [.ref 6 0, I 0] [some (.box [Sv (((l.Text.extract 0 e.From.toNat) ++ (⟨#[]⟩ : ByteArray)) ++ (l.Text.extract e.To.toNat (l.Text.size : Int).toNat)), I l.X, I l.Y, I l.Cell])] [] (by kernel_rfl) hB trivial ?_
          refine ae_then ?_
          refine aw_ret ?_
          refine ae_ret hB (.tup [.agg [Sv (((l.Text.extract 0 e.From.toNat) ++ (⟨#[]⟩ : ByteArray)) ++ (l.Text.extract e.To.toNat (l.Text.size : Int).toNat)), I l.X, I l.Y, I l.Cell], I 0]) (by kernel_rfl) (.inl (by first | (have hk : chkI l e insert = 1 := chk_1 (by simp [*]); rw [applyRow_ne hk (by decide), hk]; done) | (have hk : chkI l e insert = 2 := chk_2 (by assumption) (by assumption) (by assumption) (by omega); rw [applyRow_ne hk (by decide), hk]; done) | (have hk : chkI l e insert = 5 := chk_5 (by assumption) (by assumption) (by assumption) (by omega) (by omega); rw [applyRow_ne hk (by decide), hk]; done) | (have hk : chkI l e insert = 0 := chk_0 (by assumption) (by assumption) (by assumption) (by omega) (by omega); rw [applyRow_eq hk, hk]; simp [applyL, applyT, *]; done) | (exfalso; omega))) rfl (fun _ => (by simp [tagged, taggedL]))
        ·refine aw_reg [(2, .dec false)] [2, 3, 4, 6, 52] [3, 4, 6] [Sv insert, .ref 3 0, .ref 4 0, .ref 6 0, Bv false] [some (bxCellRow l), some (bxEdit e), some (.box [Sv (⟨#[]⟩ : ByteArray), I 0, I 0, I 0])] [¬ (e.Kind = 1)] (by kernel_rfl) hB ⟨h11, trivial⟩ ?_
         refine ae_then ?_
         refine aw_false rfl ?_
         refine aw_skip ?_
         refine ae_then ?_
         refine aw_seq ?_
         refine aw_seq ?_
         by_cases h13 : 60 < (((l.Text.size : Int) + (insert.size : Int)) - (e.To - e.From))
         ·refine aw_reg [(12, .dec true)] [2, 3, 4, 6, 65] [3, 4, 6] [Sv insert, .ref 3 0, .ref 4 0, .ref 6 0, Bv true] [some (bxCellRow l), some (bxEdit e), some (.box [Sv (⟨#[]⟩ : ByteArray), I 0, I 0, I 0])] [inR .i64 ((l.Text.size : Int) + (insert.size : Int)), inR .i64 (e.To - e.From), inR .i64 (((l.Text.size : Int) + (insert.size : Int)) - (e.To - e.From)), 60 < (((l.Text.size : Int) + (insert.size : Int)) - (e.To - e.From))] (by kernel_rfl) hB ⟨(inR_i64 (by omega) (by omega)), (inR_i64 (by omega) (by omega)), (inR_i64 (by omega) (by omega)), h13, trivial⟩ ?_
          refine ae_then ?_
          refine aw_true rfl ?_
          refine aw_seq ?_
          refine aw_reg [] [6, 7] [6] [.ref 6 0, I 5] [some (.box [Sv (⟨#[]⟩ : ByteArray), I 0, I 0, I 0])] [] (by kernel_rfl) hB trivial ?_
          refine ae_then ?_
          refine aw_ret ?_
          refine ae_ret_then ?_
          refine ae_ret hB (.tup [.agg [Sv (⟨#[]⟩ : ByteArray), I 0, I 0, I 0], I 5]) (by kernel_rfl) (.inl (by first | (have hk : chkI l e insert = 1 := chk_1 (by simp [*]); rw [applyRow_ne hk (by decide), hk]; done) | (have hk : chkI l e insert = 2 := chk_2 (by assumption) (by assumption) (by assumption) (by omega); rw [applyRow_ne hk (by decide), hk]; done) | (have hk : chkI l e insert = 5 := chk_5 (by assumption) (by assumption) (by assumption) (by omega) (by omega); rw [applyRow_ne hk (by decide), hk]; done) | (have hk : chkI l e insert = 0 := chk_0 (by assumption) (by assumption) (by assumption) (by omega) (by omega); rw [applyRow_eq hk, hk]; simp [applyL, applyT, *]; done) | (exfalso; omega))) rfl (fun _ => (by simp [tagged, taggedL]))
         ·refine aw_reg [(12, .dec false)] [2, 3, 4, 6, 65] [3, 4, 6] [Sv insert, .ref 3 0, .ref 4 0, .ref 6 0, Bv false] [some (bxCellRow l), some (bxEdit e), some (.box [Sv (⟨#[]⟩ : ByteArray), I 0, I 0, I 0])] [inR .i64 ((l.Text.size : Int) + (insert.size : Int)), inR .i64 (e.To - e.From), inR .i64 (((l.Text.size : Int) + (insert.size : Int)) - (e.To - e.From)), ¬ (60 < (((l.Text.size : Int) + (insert.size : Int)) - (e.To - e.From)))] (by kernel_rfl) hB ⟨(inR_i64 (by omega) (by omega)), (inR_i64 (by omega) (by omega)), (inR_i64 (by omega) (by omega)), h13, trivial⟩ ?_
          refine ae_then ?_
          refine aw_false rfl ?_
          refine aw_skip ?_
          refine ae_then ?_
          refine aw_seq ?_
          refine aw_reg [] [3, 6] [3, 6] [.ref 3 0, .ref 6 0] [some (.box [Sv (((l.Text.extract 0 e.From.toNat) ++ insert) ++ (l.Text.extract e.To.toNat (l.Text.size : Int).toNat)), I l.X, I l.Y, I l.Cell]), some (.box [Sv (⟨#[]⟩ : ByteArray), I 0, I 0, I 0])] [(0 : Int) ≤ 0 ∧ (0 : Int) ≤ e.From ∧ e.From ≤ (l.Text.size : Int), (l.Text.extract 0 e.From.toNat).size + insert.size ≤ 9223372036854775807, (0 : Int) ≤ e.To ∧ e.To ≤ (l.Text.size : Int) ∧ (l.Text.size : Int) ≤ (l.Text.size : Int), ((l.Text.extract 0 e.From.toNat) ++ insert).size + (l.Text.extract e.To.toNat (l.Text.size : Int).toNat).size ≤ 9223372036854775807] (by kernel_rfl) hB ⟨⟨(by omega), (by omega), (by omega)⟩, (by first | omega | (simp only [ByteArray.size_append, ba_ext, ba_nil]; omega)), ⟨(by omega), (by omega), (by omega)⟩, (by first | omega | (simp only [ByteArray.size_append, ba_ext, ba_nil]; omega)), trivial⟩ ?_
          refine ae_then ?_
          refine aw_seq ?_
          refine aw_reg [] [6, 7] [6] [.ref 6 0, I 0] [some (.box [Sv (((l.Text.extract 0 e.From.toNat) ++ insert) ++ (l.Text.extract e.To.toNat (l.Text.size : Int).toNat)), I l.X, I l.Y, I l.Cell])] [] (by kernel_rfl) hB trivial ?_
          refine ae_then ?_
          refine aw_ret ?_
          refine ae_ret hB (.tup [.agg [Sv (((l.Text.extract 0 e.From.toNat) ++ insert) ++ (l.Text.extract e.To.toNat (l.Text.size : Int).toNat)), I l.X, I l.Y, I l.Cell], I 0]) (by kernel_rfl) (.inl (by first | (have hk : chkI l e insert = 1 := chk_1 (by simp [*]); rw [applyRow_ne hk (by decide), hk]; done) | (have hk : chkI l e insert = 2 := chk_2 (by assumption) (by assumption) (by assumption) (by omega); rw [applyRow_ne hk (by decide), hk]; done) | (have hk : chkI l e insert = 5 := chk_5 (by assumption) (by assumption) (by assumption) (by omega) (by omega); rw [applyRow_ne hk (by decide), hk]; done) | (have hk : chkI l e insert = 0 := chk_0 (by assumption) (by assumption) (by assumption) (by omega) (by omega); rw [applyRow_eq hk, hk]; simp [applyL, applyT, *]; done) | (exfalso; omega))) rfl (fun _ => (by simp [tagged, taggedL]))
     ·have hinh4 := (not_congr inB_iff).1 (Bool.eq_false_iff.1 h4)
      refine aw_reg [(4, .call [(true, I e.From), (true, I 0), (true, I e.To)] true (Bv false))] [2, 3, 4, 6, 48] [3, 4, 6] [Sv insert, .ref 3 0, .ref 4 0, .ref 6 0, Bv true] [some (bxCellRow l), some (bxEdit e), some (.box [Sv (⟨#[]⟩ : ByteArray), I 0, I 0, I 0])] [Con Tryz.prog 44 [I e.From, I 0, I e.To] true (Bv false) ∧ ((I e.From : AV) = I e.From) ∧ ((I 0 : AV) = I 0) ∧ ((I e.To : AV) = I e.To) ∧ True] (by kernel_rfl) hB ⟨⟨(con_bool h4 (within_ok e.From 0 e.To)), rfl, rfl, rfl, trivial⟩, trivial⟩ ?_
      refine ae_then ?_
      refine aw_true rfl ?_
      refine aw_seq ?_
      refine aw_reg [] [6, 7] [6] [.ref 6 0, I 2] [some (.box [Sv (⟨#[]⟩ : ByteArray), I 0, I 0, I 0])] [] (by kernel_rfl) hB trivial ?_
      refine ae_then ?_
      refine aw_ret ?_
      refine ae_ret_then ?_
      refine ae_ret hB (.tup [.agg [Sv (⟨#[]⟩ : ByteArray), I 0, I 0, I 0], I 2]) (by kernel_rfl) (.inl (by first | (have hk : chkI l e insert = 1 := chk_1 (by simp [*]); rw [applyRow_ne hk (by decide), hk]; done) | (have hk : chkI l e insert = 2 := chk_2 (by assumption) (by assumption) (by assumption) (by omega); rw [applyRow_ne hk (by decide), hk]; done) | (have hk : chkI l e insert = 5 := chk_5 (by assumption) (by assumption) (by assumption) (by omega) (by omega); rw [applyRow_ne hk (by decide), hk]; done) | (have hk : chkI l e insert = 0 := chk_0 (by assumption) (by assumption) (by assumption) (by omega) (by omega); rw [applyRow_eq hk, hk]; simp [applyL, applyT, *]; done) | (exfalso; omega))) rfl (fun _ => (by simp [tagged, taggedL]))
    ·have hinh3 := (not_congr inB_iff).1 (Bool.eq_false_iff.1 h3)
     refine aw_reg [(1, .call [(true, agCellRow l)] true (Bv true)), (5, .call [(true, Sv insert)] true (Bv true)), (11, .call [(true, I e.Kind), (true, I 1), (true, I 3)] true (Bv false))] [2, 3, 4, 6, 21] [3, 4, 6] [Sv insert, .ref 3 0, .ref 4 0, .ref 6 0, Bv true] [some (bxCellRow l), some (bxEdit e), some (.box [Sv (⟨#[]⟩ : ByteArray), I 0, I 0, I 0])] [Con Tryz.prog 17 [agCellRow l] true (Bv true) ∧ ((agCellRow l : AV) = agCellRow l) ∧ True, Con Tryz.prog 48 [Sv insert] true (Bv true) ∧ ((Sv insert : AV) = Sv insert) ∧ True, Con Tryz.prog 44 [I e.Kind, I 1, I 3] true (Bv false) ∧ ((I e.Kind : AV) = I e.Kind) ∧ ((I 1 : AV) = I 1) ∧ ((I 3 : AV) = I 3) ∧ True] (by kernel_rfl) hB ⟨⟨(con_bool h1 (ValidCellRow_ok l okl)), rfl, trivial⟩, ⟨(con_bool h2 (areCells_ok insert (by omega))), rfl, trivial⟩, ⟨(con_bool h3 (within_ok e.Kind 1 3)), rfl, rfl, rfl, trivial⟩, trivial⟩ ?_
     refine ae_then ?_
     refine aw_true rfl ?_
     refine aw_seq ?_
     refine aw_reg [] [6, 7] [6] [.ref 6 0, I 1] [some (.box [Sv (⟨#[]⟩ : ByteArray), I 0, I 0, I 0])] [] (by kernel_rfl) hB trivial ?_
     refine ae_then ?_
     refine aw_ret ?_
     refine ae_ret_then ?_
     refine ae_ret hB (.tup [.agg [Sv (⟨#[]⟩ : ByteArray), I 0, I 0, I 0], I 1]) (by kernel_rfl) (.inl (by first | (have hk : chkI l e insert = 1 := chk_1 (by simp [*]); rw [applyRow_ne hk (by decide), hk]; done) | (have hk : chkI l e insert = 2 := chk_2 (by assumption) (by assumption) (by assumption) (by omega); rw [applyRow_ne hk (by decide), hk]; done) | (have hk : chkI l e insert = 5 := chk_5 (by assumption) (by assumption) (by assumption) (by omega) (by omega); rw [applyRow_ne hk (by decide), hk]; done) | (have hk : chkI l e insert = 0 := chk_0 (by assumption) (by assumption) (by assumption) (by omega) (by omega); rw [applyRow_eq hk, hk]; simp [applyL, applyT, *]; done) | (exfalso; omega))) rfl (fun _ => (by simp [tagged, taggedL]))
   ·refine aw_reg [(1, .call [(true, agCellRow l)] true (Bv true)), (5, .call [(true, Sv insert)] true (Bv false))] [2, 3, 4, 6, 21] [3, 4, 6] [Sv insert, .ref 3 0, .ref 4 0, .ref 6 0, Bv true] [some (bxCellRow l), some (bxEdit e), some (.box [Sv (⟨#[]⟩ : ByteArray), I 0, I 0, I 0])] [Con Tryz.prog 17 [agCellRow l] true (Bv true) ∧ ((agCellRow l : AV) = agCellRow l) ∧ True, Con Tryz.prog 48 [Sv insert] true (Bv false) ∧ ((Sv insert : AV) = Sv insert) ∧ True] (by kernel_rfl) hB ⟨⟨(con_bool h1 (ValidCellRow_ok l okl)), rfl, trivial⟩, ⟨(con_bool h2 (areCells_ok insert (by omega))), rfl, trivial⟩, trivial⟩ ?_
    refine ae_then ?_
    refine aw_true rfl ?_
    refine aw_seq ?_
    refine aw_reg [] [6, 7] [6] [.ref 6 0, I 1] [some (.box [Sv (⟨#[]⟩ : ByteArray), I 0, I 0, I 0])] [] (by kernel_rfl) hB trivial ?_
    refine ae_then ?_
    refine aw_ret ?_
    refine ae_ret_then ?_
    refine ae_ret hB (.tup [.agg [Sv (⟨#[]⟩ : ByteArray), I 0, I 0, I 0], I 1]) (by kernel_rfl) (.inl (by first | (have hk : chkI l e insert = 1 := chk_1 (by simp [*]); rw [applyRow_ne hk (by decide), hk]; done) | (have hk : chkI l e insert = 2 := chk_2 (by assumption) (by assumption) (by assumption) (by omega); rw [applyRow_ne hk (by decide), hk]; done) | (have hk : chkI l e insert = 5 := chk_5 (by assumption) (by assumption) (by assumption) (by omega) (by omega); rw [applyRow_ne hk (by decide), hk]; done) | (have hk : chkI l e insert = 0 := chk_0 (by assumption) (by assumption) (by assumption) (by omega) (by omega); rw [applyRow_eq hk, hk]; simp [applyL, applyT, *]; done) | (exfalso; omega))) rfl (fun _ => (by simp [tagged, taggedL]))
  ·refine aw_reg [(1, .call [(true, agCellRow l)] true (Bv false))] [2, 3, 4, 6, 21] [3, 4, 6] [Sv insert, .ref 3 0, .ref 4 0, .ref 6 0, Bv true] [some (bxCellRow l), some (bxEdit e), some (.box [Sv (⟨#[]⟩ : ByteArray), I 0, I 0, I 0])] [Con Tryz.prog 17 [agCellRow l] true (Bv false) ∧ ((agCellRow l : AV) = agCellRow l) ∧ True] (by kernel_rfl) hB ⟨⟨(con_bool h1 (ValidCellRow_ok l okl)), rfl, trivial⟩, trivial⟩ ?_
   refine ae_then ?_
   refine aw_true rfl ?_
   refine aw_seq ?_
   refine aw_reg [] [6, 7] [6] [.ref 6 0, I 1] [some (.box [Sv (⟨#[]⟩ : ByteArray), I 0, I 0, I 0])] [] (by kernel_rfl) hB trivial ?_
   refine ae_then ?_
   refine aw_ret ?_
   refine ae_ret_then ?_
   refine ae_ret hB (.tup [.agg [Sv (⟨#[]⟩ : ByteArray), I 0, I 0, I 0], I 1]) (by kernel_rfl) (.inl (by first | (have hk : chkI l e insert = 1 := chk_1 (by simp [*]); rw [applyRow_ne hk (by decide), hk]; done) | (have hk : chkI l e insert = 2 := chk_2 (by assumption) (by assumption) (by assumption) (by omega); rw [applyRow_ne hk (by decide), hk]; done) | (have hk : chkI l e insert = 5 := chk_5 (by assumption) (by assumption) (by assumption) (by omega) (by omega); rw [applyRow_ne hk (by decide), hk]; done) | (have hk : chkI l e insert = 0 := chk_0 (by assumption) (by assumption) (by assumption) (by omega) (by omega); rw [applyRow_eq hk, hk]; simp [applyL, applyT, *]; done) | (exfalso; omega))) rfl (fun _ => (by simp [tagged, taggedL]))


-- spec.l01Small
theorem l01Small_ok (c : Int) : Con Tryz.prog 98 [.val (.int .u8 c)] true (Bv (inB c 97 122)) := by
  refine fn_ok (fn := Tryz.f98) (nt := 9) Tryz.func98 rfl rfl rfl rfl (by simp [taggedL, tagged]) fun B hB => ?_
  refine aw_seq ?_
  refine aw_reg [] [0] [] [.val (.int .u8 c)] [] [] (by kernel_rfl) hB trivial ?_
  refine ae_then ?_
  refine aw_seq ?_
  by_cases h1 : 97 ≤ c
  ·refine aw_reg [(1, .dec true)] [2] [] [Bv (decide (c ≤ 122))] [] [97 ≤ c] (by kernel_rfl) hB ⟨h1, trivial⟩ ?_
   refine ae_then ?_
   refine aw_ret ?_
   refine ae_ret hB (Bv (decide (c ≤ 122))) (by kernel_rfl) (.inl (by first | rfl | (refine congrArg Bv ?_; simp [inB, *]; done) | (refine congrArg Bv ?_; simp [inB, *]; omega) | (refine congrArg Bv ?_; simp_all [inB]; done) | (refine congrArg Bv ?_; simp_all [inB]; omega))) rfl (fun _ => trivial)
  ·refine aw_reg [(1, .dec false)] [2] [] [Bv false] [] [¬ (97 ≤ c)] (by kernel_rfl) hB ⟨h1, trivial⟩ ?_
   refine ae_then ?_
   refine aw_ret ?_
   refine ae_ret hB (Bv false) (by kernel_rfl) (.inl (by first | rfl | (refine congrArg Bv ?_; simp [inB, *]; done) | (refine congrArg Bv ?_; simp [inB, *]; omega) | (refine congrArg Bv ?_; simp_all [inB]; done) | (refine congrArg Bv ?_; simp_all [inB]; omega))) rfl (fun _ => trivial)


-- spec.l01Digit
theorem l01Digit_ok (c : Int) : Con Tryz.prog 99 [.val (.int .u8 c)] true (Bv (inB c 48 57)) := by
  refine fn_ok (fn := Tryz.f99) (nt := 9) Tryz.func99 rfl rfl rfl rfl (by simp [taggedL, tagged]) fun B hB => ?_
  refine aw_seq ?_
  refine aw_reg [] [0] [] [.val (.int .u8 c)] [] [] (by kernel_rfl) hB trivial ?_
  refine ae_then ?_
  refine aw_seq ?_
  by_cases h1 : 48 ≤ c
  ·refine aw_reg [(1, .dec true)] [2] [] [Bv (decide (c ≤ 57))] [] [48 ≤ c] (by kernel_rfl) hB ⟨h1, trivial⟩ ?_
   refine ae_then ?_
   refine aw_ret ?_
   refine ae_ret hB (Bv (decide (c ≤ 57))) (by kernel_rfl) (.inl (by first | rfl | (refine congrArg Bv ?_; simp [inB, *]; done) | (refine congrArg Bv ?_; simp [inB, *]; omega) | (refine congrArg Bv ?_; simp_all [inB]; done) | (refine congrArg Bv ?_; simp_all [inB]; omega))) rfl (fun _ => trivial)
  ·refine aw_reg [(1, .dec false)] [2] [] [Bv false] [] [¬ (48 ≤ c)] (by kernel_rfl) hB ⟨h1, trivial⟩ ?_
   refine ae_then ?_
   refine aw_ret ?_
   refine ae_ret hB (Bv false) (by kernel_rfl) (.inl (by first | rfl | (refine congrArg Bv ?_; simp [inB, *]; done) | (refine congrArg Bv ?_; simp [inB, *]; omega) | (refine congrArg Bv ?_; simp_all [inB]; done) | (refine congrArg Bv ?_; simp_all [inB]; omega))) rfl (fun _ => trivial)


-- spec.l23Letters
theorem l23Letters_ok (s : ByteArray) (ok : s.size ≤ 9223372036854775807) : Con Tryz.prog 78 [Sv s] true (Bv (lettersB s)) := by
  refine fn_ok (fn := Tryz.f78) (nt := 28) Tryz.func78 rfl rfl rfl rfl (by simp [taggedL, tagged]) fun B hB => ?_
  refine aw_seq ?_
  refine aw_reg [] [0] [] [Sv s] [] [] (by kernel_rfl) hB trivial ?_
  refine ae_then ?_
  refine aw_seq ?_
  refine aw_seq ?_
  refine aw_reg [] [0, 3] [] [Sv s, I 0] [] [] (by kernel_rfl) hB trivial ?_
  refine ae_then ?_
  refine aw_block ?_
  refine aw_loop (fun gn gσ => ∃ (i : Int), gn = ((s.size : Int) - i).toNat ∧ (0 ≤ i ∧ i ≤ (s.size : Int)) ∧ (∀ j : Nat, (j : Int) < i → cellB (bAt s j) = true) ∧ gσ = mkS [(0, Sv s), (3, I i)] []) (((s.size : Int) - 0).toNat) ⟨0, rfl, (by omega), (by intro j hj; omega), rfl⟩ (fun gn gσ hI => ?_)
  obtain ⟨i, rfl, hi0, hall0, rfl⟩ := hI
  refine aw_seq ?_
  refine aw_seq ?_
  by_cases h1 : i < (s.size : Int)
  ·have hi : i.toNat < s.size := by omega
   refine aw_reg [(3, .dec true)] [0, 3, 7] [] [Sv s, I i, Bv true] [] [i < (s.size : Int)] (by kernel_rfl) hB ⟨h1, trivial⟩ ?_
   refine ae_then ?_
   refine aw_true rfl ?_
   refine aw_skip ?_
   refine ae_then ?_
   refine aw_seq ?_
   refine aw_block ?_
   refine aw_seq ?_
   rcases Bool.eq_false_or_eq_true (inB (bAt s i.toNat) 97 122) with h2 | h2
   ·refine aw_reg [(3, .call [(true, .val (.int .u8 (bAt s i.toNat)))] true (Bv true))] [0, 3, 27] [] [Sv s, I i, Bv false] [] [(0 : Int) ≤ i ∧ i < (s.size : Int), Con Tryz.prog 98 [.val (.int .u8 (bAt s i.toNat))] true (Bv true) ∧ ((.val (.int .u8 (bAt s i.toNat)) : AV) = .val (.int .u8 (bAt s i.toNat))) ∧ True] (by kernel_rfl) hB ⟨⟨(by omega), (by omega)⟩, ⟨(con_bool h2 (l01Small_ok (bAt s i.toNat))), rfl, trivial⟩, trivial⟩ ?_
    refine ae_then ?_
    refine aw_false rfl ?_
    refine aw_skip ?_
    refine ae_block 1 ?_
    refine ae_then ?_
    refine aw_reg [] [0, 3] [] [Sv s, I (i + 1)] [] [inR .i64 (i + 1)] (by kernel_rfl) hB ⟨(inR_i64 (by omega) (by omega)), trivial⟩ ?_
    exact ae_again _ (by omega) ⟨(i + 1), rfl, (by omega), (by intro j hj; by_cases ej : j = i.toNat; (subst ej; simp_all [cellB]); exact hall0 j (by omega)), rfl⟩
   ·rcases Bool.eq_false_or_eq_true (inB (bAt s i.toNat) 48 57) with h3 | h3
    ·refine aw_reg [(3, .call [(true, .val (.int .u8 (bAt s i.toNat)))] true (Bv false)), (9, .call [(true, .val (.int .u8 (bAt s i.toNat)))] true (Bv true))] [0, 3, 27] [] [Sv s, I i, Bv false] [] [(0 : Int) ≤ i ∧ i < (s.size : Int), Con Tryz.prog 98 [.val (.int .u8 (bAt s i.toNat))] true (Bv false) ∧ ((.val (.int .u8 (bAt s i.toNat)) : AV) = .val (.int .u8 (bAt s i.toNat))) ∧ True, (0 : Int) ≤ i ∧ i < (s.size : Int), Con Tryz.prog 99 [.val (.int .u8 (bAt s i.toNat))] true (Bv true) ∧ ((.val (.int .u8 (bAt s i.toNat)) : AV) = .val (.int .u8 (bAt s i.toNat))) ∧ True] (by kernel_rfl) hB ⟨⟨(by omega), (by omega)⟩, ⟨(con_bool h2 (l01Small_ok (bAt s i.toNat))), rfl, trivial⟩, ⟨(by omega), (by omega)⟩, ⟨(con_bool h3 (l01Digit_ok (bAt s i.toNat))), rfl, trivial⟩, trivial⟩ ?_
     refine ae_then ?_
     refine aw_false rfl ?_
     refine aw_skip ?_
     refine ae_block 1 ?_
     refine ae_then ?_
     refine aw_reg [] [0, 3] [] [Sv s, I (i + 1)] [] [inR .i64 (i + 1)] (by kernel_rfl) hB ⟨(inR_i64 (by omega) (by omega)), trivial⟩ ?_
     exact ae_again _ (by omega) ⟨(i + 1), rfl, (by omega), (by intro j hj; by_cases ej : j = i.toNat; (subst ej; simp_all [cellB]); exact hall0 j (by omega)), rfl⟩
    ·by_cases h4 : (bAt s i.toNat) = 32
     ·refine aw_reg [(3, .call [(true, .val (.int .u8 (bAt s i.toNat)))] true (Bv false)), (9, .call [(true, .val (.int .u8 (bAt s i.toNat)))] true (Bv false)), (16, .dec false)] [0, 3, 27] [] [Sv s, I i, Bv false] [] [(0 : Int) ≤ i ∧ i < (s.size : Int), Con Tryz.prog 98 [.val (.int .u8 (bAt s i.toNat))] true (Bv false) ∧ ((.val (.int .u8 (bAt s i.toNat)) : AV) = .val (.int .u8 (bAt s i.toNat))) ∧ True, (0 : Int) ≤ i ∧ i < (s.size : Int), Con Tryz.prog 99 [.val (.int .u8 (bAt s i.toNat))] true (Bv false) ∧ ((.val (.int .u8 (bAt s i.toNat)) : AV) = .val (.int .u8 (bAt s i.toNat))) ∧ True, (0 : Int) ≤ i ∧ i < (s.size : Int), ¬ ((bAt s i.toNat) ≠ 32)] (by kernel_rfl) hB ⟨⟨(by omega), (by omega)⟩, ⟨(con_bool h2 (l01Small_ok (bAt s i.toNat))), rfl, trivial⟩, ⟨(by omega), (by omega)⟩, ⟨(con_bool h3 (l01Digit_ok (bAt s i.toNat))), rfl, trivial⟩, ⟨(by omega), (by omega)⟩, (fun hq => hq h4), trivial⟩ ?_
      refine ae_then ?_
      refine aw_false rfl ?_
      refine aw_skip ?_
      refine ae_block 1 ?_
      refine ae_then ?_
      refine aw_reg [] [0, 3] [] [Sv s, I (i + 1)] [] [inR .i64 (i + 1)] (by kernel_rfl) hB ⟨(inR_i64 (by omega) (by omega)), trivial⟩ ?_
      exact ae_again _ (by omega) ⟨(i + 1), rfl, (by omega), (by intro j hj; by_cases ej : j = i.toNat; (subst ej; simp_all [cellB]); exact hall0 j (by omega)), rfl⟩
     ·refine aw_reg [(3, .call [(true, .val (.int .u8 (bAt s i.toNat)))] true (Bv false)), (9, .call [(true, .val (.int .u8 (bAt s i.toNat)))] true (Bv false)), (16, .dec true)] [0, 3, 27] [] [Sv s, I i, Bv true] [] [(0 : Int) ≤ i ∧ i < (s.size : Int), Con Tryz.prog 98 [.val (.int .u8 (bAt s i.toNat))] true (Bv false) ∧ ((.val (.int .u8 (bAt s i.toNat)) : AV) = .val (.int .u8 (bAt s i.toNat))) ∧ True, (0 : Int) ≤ i ∧ i < (s.size : Int), Con Tryz.prog 99 [.val (.int .u8 (bAt s i.toNat))] true (Bv false) ∧ ((.val (.int .u8 (bAt s i.toNat)) : AV) = .val (.int .u8 (bAt s i.toNat))) ∧ True, (0 : Int) ≤ i ∧ i < (s.size : Int), (bAt s i.toNat) ≠ 32] (by kernel_rfl) hB ⟨⟨(by omega), (by omega)⟩, ⟨(con_bool h2 (l01Small_ok (bAt s i.toNat))), rfl, trivial⟩, ⟨(by omega), (by omega)⟩, ⟨(con_bool h3 (l01Digit_ok (bAt s i.toNat))), rfl, trivial⟩, ⟨(by omega), (by omega)⟩, h4, trivial⟩ ?_
      refine ae_then ?_
      refine aw_true rfl ?_
      refine aw_seq ?_
      refine aw_reg [] [2] [] [Bv false] [] [] (by kernel_rfl) hB trivial ?_
      refine ae_then ?_
      refine aw_ret ?_
      refine ae_ret_block (ae_ret_then (ae_ret_then (ae_ret_block (ae_ret_then ?_))))
      refine ae_ret hB (Bv false) (by kernel_rfl) (.inl (by refine congrArg Bv ?_; first | exact hall.symm | (symm; exact allN_not hi (by simp_all [cellB, inB])))) rfl (fun _ => trivial)
  ·have hall : allN s.size (fun j => cellB (bAt s j)) = true := allN_at (fun j hj => hall0 j (by omega))
   refine aw_reg [(3, .dec false)] [0, 3, 7] [] [Sv s, I i, Bv false] [] [¬ (i < (s.size : Int))] (by kernel_rfl) hB ⟨h1, trivial⟩ ?_
   refine ae_then ?_
   refine aw_false rfl ?_
   refine aw_exit ?_
   refine ae_exit_then ?_
   refine ae_exit_then ?_
   refine ae_exit_same ?_
   refine ae_then ?_
   refine aw_seq ?_
   refine aw_reg [] [2] [] [Bv true] [] [] (by kernel_rfl) hB trivial ?_
   refine ae_then ?_
   refine aw_ret ?_
   refine ae_ret hB (Bv true) (by kernel_rfl) (.inl (by refine congrArg Bv ?_; first | exact hall.symm | (symm; exact allN_not hi (by simp_all [cellB, inB])))) rfl (fun _ => trivial)


-- spec.l00In
theorem l00In_ok (n : Int) (low : Int) (high : Int) : Con Tryz.prog 46 [I n, I low, I high] true (Bv (inB n low high)) := by
  refine fn_ok (fn := Tryz.f46) (nt := 15) Tryz.func46 rfl rfl rfl rfl (by simp [taggedL, tagged]) fun B hB => ?_
  refine aw_seq ?_
  refine aw_reg [] [0, 1, 2] [] [I n, I low, I high] [] [] (by kernel_rfl) hB trivial ?_
  refine ae_then ?_
  refine aw_seq ?_
  by_cases h1 : low ≤ n
  ·refine aw_reg [(2, .dec true)] [6] [] [Bv (decide (n ≤ high))] [] [low ≤ n] (by kernel_rfl) hB ⟨h1, trivial⟩ ?_
   refine ae_then ?_
   refine aw_ret ?_
   refine ae_ret hB (Bv (decide (n ≤ high))) (by kernel_rfl) (.inl (by first | rfl | (refine congrArg Bv ?_; simp [inB, *]; done) | (refine congrArg Bv ?_; simp [inB, *]; omega) | (refine congrArg Bv ?_; simp_all [inB]; done) | (refine congrArg Bv ?_; simp_all [inB]; omega))) rfl (fun _ => trivial)
  ·refine aw_reg [(2, .dec false)] [6] [] [Bv false] [] [¬ (low ≤ n)] (by kernel_rfl) hB ⟨h1, trivial⟩ ?_
   refine ae_then ?_
   refine aw_ret ?_
   refine ae_ret hB (Bv false) (by kernel_rfl) (.inl (by first | rfl | (refine congrArg Bv ?_; simp [inB, *]; done) | (refine congrArg Bv ?_; simp [inB, *]; omega) | (refine congrArg Bv ?_; simp_all [inB]; done) | (refine congrArg Bv ?_; simp_all [inB]; omega))) rfl (fun _ => trivial)


-- spec.l23Ok
theorem l23Ok_ok (l : CellRow) (ok : l.Text.size ≤ 9223372036854775807) : Con Tryz.prog 45 [.ptr false [Sv l.Text, I l.X, I l.Y, I l.Cell]] true (Bv (okRow l)) := by
  refine fn_ok (fn := Tryz.f45) (nt := 37) Tryz.func45 rfl rfl rfl rfl (by simp [taggedL, tagged]) fun B hB => ?_
  refine aw_seq ?_
  refine aw_reg [] [0] [] [.ptr false [Sv l.Text, I l.X, I l.Y, I l.Cell]] [] [] (by kernel_rfl) hB trivial ?_
  refine ae_then ?_
  refine aw_seq ?_
  rcases Bool.eq_false_or_eq_true (lettersB l.Text) with h1 | h1
  ·by_cases h2 : (l.Text.size : Int) ≤ 60
   ·rcases Bool.eq_false_or_eq_true (inB l.X 0 4095) with h3 | h3
    ·rcases Bool.eq_false_or_eq_true (inB l.Y 0 4095) with h4 | h4
     ·refine aw_reg [(4, .call [(true, Sv l.Text)] true (Bv true)), (11, .dec true), (18, .call [(true, I l.X), (true, I 0), (true, I 4095)] true (Bv true)), (25, .call [(true, I l.Y), (true, I 0), (true, I 4095)] true (Bv true)), (32, .call [(true, I l.Cell), (true, I 2), (true, I 60)] true (Bv (inB l.Cell 2 60)))] [2] [] [Bv (inB l.Cell 2 60)] [] [Con Tryz.prog 78 [Sv l.Text] true (Bv true) ∧ ((Sv l.Text : AV) = Sv l.Text) ∧ True, (l.Text.size : Int) ≤ 60, Con Tryz.prog 46 [I l.X, I 0, I 4095] true (Bv true) ∧ ((I l.X : AV) = I l.X) ∧ ((I 0 : AV) = I 0) ∧ ((I 4095 : AV) = I 4095) ∧ True, Con Tryz.prog 46 [I l.Y, I 0, I 4095] true (Bv true) ∧ ((I l.Y : AV) = I l.Y) ∧ ((I 0 : AV) = I 0) ∧ ((I 4095 : AV) = I 4095) ∧ True, Con Tryz.prog 46 [I l.Cell, I 2, I 60] true (Bv (inB l.Cell 2 60)) ∧ ((I l.Cell : AV) = I l.Cell) ∧ ((I 2 : AV) = I 2) ∧ ((I 60 : AV) = I 60) ∧ True] (by kernel_rfl) hB ⟨⟨(con_bool h1 (l23Letters_ok l.Text ok)), rfl, trivial⟩, h2, ⟨(con_bool h3 (l00In_ok l.X 0 4095)), rfl, rfl, rfl, trivial⟩, ⟨(con_bool h4 (l00In_ok l.Y 0 4095)), rfl, rfl, rfl, trivial⟩, ⟨(l00In_ok l.Cell 2 60), rfl, rfl, rfl, trivial⟩, trivial⟩ ?_
      refine ae_then ?_
      refine aw_ret ?_
      refine ae_ret hB (Bv (inB l.Cell 2 60)) (by kernel_rfl) (.inl (by first | rfl | (refine congrArg Bv ?_; simp [okRow, inB, *]; done) | (refine congrArg Bv ?_; simp [okRow, inB, *]; omega) | (refine congrArg Bv ?_; simp_all [okRow, inB]; done) | (refine congrArg Bv ?_; simp_all [okRow, inB]; omega))) rfl (fun _ => trivial)
     ·refine aw_reg [(4, .call [(true, Sv l.Text)] true (Bv true)), (11, .dec true), (18, .call [(true, I l.X), (true, I 0), (true, I 4095)] true (Bv true)), (25, .call [(true, I l.Y), (true, I 0), (true, I 4095)] true (Bv false))] [2] [] [Bv false] [] [Con Tryz.prog 78 [Sv l.Text] true (Bv true) ∧ ((Sv l.Text : AV) = Sv l.Text) ∧ True, (l.Text.size : Int) ≤ 60, Con Tryz.prog 46 [I l.X, I 0, I 4095] true (Bv true) ∧ ((I l.X : AV) = I l.X) ∧ ((I 0 : AV) = I 0) ∧ ((I 4095 : AV) = I 4095) ∧ True, Con Tryz.prog 46 [I l.Y, I 0, I 4095] true (Bv false) ∧ ((I l.Y : AV) = I l.Y) ∧ ((I 0 : AV) = I 0) ∧ ((I 4095 : AV) = I 4095) ∧ True] (by kernel_rfl) hB ⟨⟨(con_bool h1 (l23Letters_ok l.Text ok)), rfl, trivial⟩, h2, ⟨(con_bool h3 (l00In_ok l.X 0 4095)), rfl, rfl, rfl, trivial⟩, ⟨(con_bool h4 (l00In_ok l.Y 0 4095)), rfl, rfl, rfl, trivial⟩, trivial⟩ ?_
      refine ae_then ?_
      refine aw_ret ?_
      refine ae_ret hB (Bv false) (by kernel_rfl) (.inl (by first | rfl | (refine congrArg Bv ?_; simp [okRow, inB, *]; done) | (refine congrArg Bv ?_; simp [okRow, inB, *]; omega) | (refine congrArg Bv ?_; simp_all [okRow, inB]; done) | (refine congrArg Bv ?_; simp_all [okRow, inB]; omega))) rfl (fun _ => trivial)
    ·refine aw_reg [(4, .call [(true, Sv l.Text)] true (Bv true)), (11, .dec true), (18, .call [(true, I l.X), (true, I 0), (true, I 4095)] true (Bv false))] [2] [] [Bv false] [] [Con Tryz.prog 78 [Sv l.Text] true (Bv true) ∧ ((Sv l.Text : AV) = Sv l.Text) ∧ True, (l.Text.size : Int) ≤ 60, Con Tryz.prog 46 [I l.X, I 0, I 4095] true (Bv false) ∧ ((I l.X : AV) = I l.X) ∧ ((I 0 : AV) = I 0) ∧ ((I 4095 : AV) = I 4095) ∧ True] (by kernel_rfl) hB ⟨⟨(con_bool h1 (l23Letters_ok l.Text ok)), rfl, trivial⟩, h2, ⟨(con_bool h3 (l00In_ok l.X 0 4095)), rfl, rfl, rfl, trivial⟩, trivial⟩ ?_
     refine ae_then ?_
     refine aw_ret ?_
     refine ae_ret hB (Bv false) (by kernel_rfl) (.inl (by first | rfl | (refine congrArg Bv ?_; simp [okRow, inB, *]; done) | (refine congrArg Bv ?_; simp [okRow, inB, *]; omega) | (refine congrArg Bv ?_; simp_all [okRow, inB]; done) | (refine congrArg Bv ?_; simp_all [okRow, inB]; omega))) rfl (fun _ => trivial)
   ·refine aw_reg [(4, .call [(true, Sv l.Text)] true (Bv true)), (11, .dec false)] [2] [] [Bv false] [] [Con Tryz.prog 78 [Sv l.Text] true (Bv true) ∧ ((Sv l.Text : AV) = Sv l.Text) ∧ True, ¬ ((l.Text.size : Int) ≤ 60)] (by kernel_rfl) hB ⟨⟨(con_bool h1 (l23Letters_ok l.Text ok)), rfl, trivial⟩, h2, trivial⟩ ?_
    refine ae_then ?_
    refine aw_ret ?_
    refine ae_ret hB (Bv false) (by kernel_rfl) (.inl (by first | rfl | (refine congrArg Bv ?_; simp [okRow, inB, *]; done) | (refine congrArg Bv ?_; simp [okRow, inB, *]; omega) | (refine congrArg Bv ?_; simp_all [okRow, inB]; done) | (refine congrArg Bv ?_; simp_all [okRow, inB]; omega))) rfl (fun _ => trivial)
  ·refine aw_reg [(4, .call [(true, Sv l.Text)] true (Bv false))] [2] [] [Bv false] [] [Con Tryz.prog 78 [Sv l.Text] true (Bv false) ∧ ((Sv l.Text : AV) = Sv l.Text) ∧ True] (by kernel_rfl) hB ⟨⟨(con_bool h1 (l23Letters_ok l.Text ok)), rfl, trivial⟩, trivial⟩ ?_
   refine ae_then ?_
   refine aw_ret ?_
   refine ae_ret hB (Bv false) (by kernel_rfl) (.inl (by first | rfl | (refine congrArg Bv ?_; simp [okRow, inB, *]; done) | (refine congrArg Bv ?_; simp [okRow, inB, *]; omega) | (refine congrArg Bv ?_; simp_all [okRow, inB]; done) | (refine congrArg Bv ?_; simp_all [okRow, inB]; omega))) rfl (fun _ => trivial)


-- spec.l23Check
theorem l23Check_ok (l : CellRow) (e : Edit) (insert : ByteArray) (okl : l.Text.size ≤ 9223372036854775807) (oki : insert.size ≤ 1048576) : Con Tryz.prog 52 [.ptr false [Sv l.Text, I l.X, I l.Y, I l.Cell], agEdit e, Sv insert] true (I (chkI l e insert)) := by
  refine fn_ok (fn := Tryz.f52) (nt := 69) Tryz.func52 rfl rfl rfl rfl (by simp [taggedL, tagged]) fun B hB => ?_
  refine aw_seq ?_
  refine aw_reg [(0, .new 4)] [0, 2, 4] [4] [.ptr false [Sv l.Text, I l.X, I l.Y, I l.Cell], Sv insert, .ref 4 0] [some (bxEdit e)] [] (by kernel_rfl) hB trivial ?_
  refine ae_then ?_
  refine aw_seq ?_
  refine aw_seq ?_
  rcases Bool.eq_false_or_eq_true (okRow l) with h1 | h1
  ·have hr := okRow_iff.1 h1
   rcases Bool.eq_false_or_eq_true (lettersB insert) with h2 | h2
   ·rcases Bool.eq_false_or_eq_true (inB e.Kind 1 3) with h3 | h3
    ·have hinh3 := inB_iff.1 h3
     refine aw_reg [(1, .call [(true, .ptr false [Sv l.Text, I l.X, I l.Y, I l.Cell])] true (Bv true)), (5, .call [(true, Sv insert)] true (Bv true)), (11, .call [(true, I e.Kind), (true, I 1), (true, I 3)] true (Bv true))] [0, 2, 4, 20] [4] [.ptr false [Sv l.Text, I l.X, I l.Y, I l.Cell], Sv insert, .ref 4 0, Bv false] [some (bxEdit e)] [Con Tryz.prog 45 [.ptr false [Sv l.Text, I l.X, I l.Y, I l.Cell]] true (Bv true) ∧ ((.ptr false [Sv l.Text, I l.X, I l.Y, I l.Cell] : AV) = .ptr false [Sv l.Text, I l.X, I l.Y, I l.Cell]) ∧ True, Con Tryz.prog 78 [Sv insert] true (Bv true) ∧ ((Sv insert : AV) = Sv insert) ∧ True, Con Tryz.prog 46 [I e.Kind, I 1, I 3] true (Bv true) ∧ ((I e.Kind : AV) = I e.Kind) ∧ ((I 1 : AV) = I 1) ∧ ((I 3 : AV) = I 3) ∧ True] (by kernel_rfl) hB ⟨⟨(con_bool h1 (l23Ok_ok l okl)), rfl, trivial⟩, ⟨(con_bool h2 (l23Letters_ok insert (by omega))), rfl, trivial⟩, ⟨(con_bool h3 (l00In_ok e.Kind 1 3)), rfl, rfl, rfl, trivial⟩, trivial⟩ ?_
     refine ae_then ?_
     refine aw_false rfl ?_
     refine aw_skip ?_
     refine ae_then ?_
     refine aw_seq ?_
     refine aw_seq ?_
     rcases Bool.eq_false_or_eq_true (inB e.From 0 e.To) with h4 | h4
     ·have hinh4 := inB_iff.1 h4
      by_cases h5 : (l.Text.size : Int) < e.To
      ·refine aw_reg [(4, .call [(true, I e.From), (true, I 0), (true, I e.To)] true (Bv true)), (14, .dec true)] [0, 2, 4, 48] [4] [.ptr false [Sv l.Text, I l.X, I l.Y, I l.Cell], Sv insert, .ref 4 0, Bv true] [some (bxEdit e)] [Con Tryz.prog 46 [I e.From, I 0, I e.To] true (Bv true) ∧ ((I e.From : AV) = I e.From) ∧ ((I 0 : AV) = I 0) ∧ ((I e.To : AV) = I e.To) ∧ True, (l.Text.size : Int) < e.To] (by kernel_rfl) hB ⟨⟨(con_bool h4 (l00In_ok e.From 0 e.To)), rfl, rfl, rfl, trivial⟩, h5, trivial⟩ ?_
       refine ae_then ?_
       refine aw_true rfl ?_
       refine aw_seq ?_
       refine aw_reg [] [6] [] [I 2] [] [] (by kernel_rfl) hB trivial ?_
       refine ae_then ?_
       refine aw_ret ?_
       refine ae_ret_then ?_
       refine ae_ret hB (I 2) (by kernel_rfl) (.inl (by refine congrArg I ?_; first | exact (chk_1 (by simp [*])).symm | exact (chk_2 (by assumption) (by assumption) (by assumption) (by omega)).symm | exact (chk_5 (by assumption) (by assumption) (by assumption) (by omega) (by omega)).symm | exact (chk_0 (by assumption) (by assumption) (by assumption) (by omega) (by omega)).symm)) rfl (fun _ => trivial)
      ·by_cases h6 : e.Kind = 3
       ·by_cases h7 : e.From = e.To
        ·refine aw_reg [(4, .call [(true, I e.From), (true, I 0), (true, I e.To)] true (Bv true)), (14, .dec false), (19, .dec true), (25, .dec false)] [0, 2, 4, 48] [4] [.ptr false [Sv l.Text, I l.X, I l.Y, I l.Cell], Sv insert, .ref 4 0, Bv false] [some (bxEdit e)] [Con Tryz.prog 46 [I e.From, I 0, I e.To] true (Bv true) ∧ ((I e.From : AV) = I e.From) ∧ ((I 0 : AV) = I 0) ∧ ((I e.To : AV) = I e.To) ∧ True, ¬ ((l.Text.size : Int) < e.To), e.Kind = 3, ¬ (e.From ≠ e.To)] (by kernel_rfl) hB ⟨⟨(con_bool h4 (l00In_ok e.From 0 e.To)), rfl, rfl, rfl, trivial⟩, h5, h6, (fun hq => hq h7), trivial⟩ ?_
         refine ae_then ?_
         refine aw_false rfl ?_
         refine aw_skip ?_
         refine ae_then ?_
         refine aw_seq ?_
         refine aw_seq ?_
         by_cases h8 : e.Kind = 1
         ·refine aw_reg [(2, .dec false)] [68] [] [Bv false] [] [¬ (e.Kind ≠ 1)] (by kernel_rfl) hB ⟨(fun hq => hq h8), trivial⟩ ?_
          refine ae_then ?_
          refine aw_false rfl ?_
          refine aw_skip ?_
          refine ae_then ?_
          refine aw_seq ?_
          refine aw_reg [] [6] [] [I 0] [] [] (by kernel_rfl) hB trivial ?_
          refine ae_then ?_
          refine aw_ret ?_
          refine ae_ret hB (I 0) (by kernel_rfl) (.inl (by refine congrArg I ?_; first | exact (chk_1 (by simp [*])).symm | exact (chk_2 (by assumption) (by assumption) (by assumption) (by omega)).symm | exact (chk_5 (by assumption) (by assumption) (by assumption) (by omega) (by omega)).symm | exact (chk_0 (by assumption) (by assumption) (by assumption) (by omega) (by omega)).symm)) rfl (fun _ => trivial)
         ·by_cases h9 : 60 < (((l.Text.size : Int) + (insert.size : Int)) - (e.To - e.From))
          ·refine aw_reg [(2, .dec true), (18, .dec true)] [68] [] [Bv true] [] [e.Kind ≠ 1, inR .i64 ((l.Text.size : Int) + (insert.size : Int)), inR .i64 (e.To - e.From), inR .i64 (((l.Text.size : Int) + (insert.size : Int)) - (e.To - e.From)), 60 < (((l.Text.size : Int) + (insert.size : Int)) - (e.To - e.From))] (by kernel_rfl) hB ⟨h8, (inR_i64 (by omega) (by omega)), (inR_i64 (by omega) (by omega)), (inR_i64 (by omega) (by omega)), h9, trivial⟩ ?_
           refine ae_then ?_
           refine aw_true rfl ?_
           refine aw_seq ?_
           refine aw_reg [] [6] [] [I 5] [] [] (by kernel_rfl) hB trivial ?_
           refine ae_then ?_
           refine aw_ret ?_
           refine ae_ret_then ?_
           refine ae_ret hB (I 5) (by kernel_rfl) (.inl (by refine congrArg I ?_; first | exact (chk_1 (by simp [*])).symm | exact (chk_2 (by assumption) (by assumption) (by assumption) (by omega)).symm | exact (chk_5 (by assumption) (by assumption) (by assumption) (by omega) (by omega)).symm | exact (chk_0 (by assumption) (by assumption) (by assumption) (by omega) (by omega)).symm)) rfl (fun _ => trivial)
          ·refine aw_reg [(2, .dec true), (18, .dec false)] [68] [] [Bv false] [] [e.Kind ≠ 1, inR .i64 ((l.Text.size : Int) + (insert.size : Int)), inR .i64 (e.To - e.From), inR .i64 (((l.Text.size : Int) + (insert.size : Int)) - (e.To - e.From)), ¬ (60 < (((l.Text.size : Int) + (insert.size : Int)) - (e.To - e.From)))] (by kernel_rfl) hB ⟨h8, (inR_i64 (by omega) (by omega)), (inR_i64 (by omega) (by omega)), (inR_i64 (by omega) (by omega)), h9, trivial⟩ ?_
           refine ae_then ?_
           refine aw_false rfl ?_
           refine aw_skip ?_
           refine ae_then ?_
           refine aw_seq ?_
           refine aw_reg [] [6] [] [I 0] [] [] (by kernel_rfl) hB trivial ?_
           refine ae_then ?_
           refine aw_ret ?_
           refine ae_ret hB (I 0) (by kernel_rfl) (.inl (by refine congrArg I ?_; first | exact (chk_1 (by simp [*])).symm | exact (chk_2 (by assumption) (by assumption) (by assumption) (by omega)).symm | exact (chk_5 (by assumption) (by assumption) (by assumption) (by omega) (by omega)).symm | exact (chk_0 (by assumption) (by assumption) (by assumption) (by omega) (by omega)).symm)) rfl (fun _ => trivial)
        ·refine aw_reg [(4, .call [(true, I e.From), (true, I 0), (true, I e.To)] true (Bv true)), (14, .dec false), (19, .dec true), (25, .dec true)] [0, 2, 4, 48] [4] [.ptr false [Sv l.Text, I l.X, I l.Y, I l.Cell], Sv insert, .ref 4 0, Bv true] [some (bxEdit e)] [Con Tryz.prog 46 [I e.From, I 0, I e.To] true (Bv true) ∧ ((I e.From : AV) = I e.From) ∧ ((I 0 : AV) = I 0) ∧ ((I e.To : AV) = I e.To) ∧ True, ¬ ((l.Text.size : Int) < e.To), e.Kind = 3, e.From ≠ e.To] (by kernel_rfl) hB ⟨⟨(con_bool h4 (l00In_ok e.From 0 e.To)), rfl, rfl, rfl, trivial⟩, h5, h6, h7, trivial⟩ ?_
         refine ae_then ?_
         refine aw_true rfl ?_
         refine aw_seq ?_
         refine aw_reg [] [6] [] [I 2] [] [] (by kernel_rfl) hB trivial ?_
         refine ae_then ?_
         refine aw_ret ?_
         refine ae_ret_then ?_
         refine ae_ret hB (I 2) (by kernel_rfl) (.inl (by refine congrArg I ?_; first | exact (chk_1 (by simp [*])).symm | exact (chk_2 (by assumption) (by assumption) (by assumption) (by omega)).symm | exact (chk_5 (by assumption) (by assumption) (by assumption) (by omega) (by omega)).symm | exact (chk_0 (by assumption) (by assumption) (by assumption) (by omega) (by omega)).symm)) rfl (fun _ => trivial)
       ·refine aw_reg [(4, .call [(true, I e.From), (true, I 0), (true, I e.To)] true (Bv true)), (14, .dec false), (19, .dec false)] [0, 2, 4, 48] [4] [.ptr false [Sv l.Text, I l.X, I l.Y, I l.Cell], Sv insert, .ref 4 0, Bv false] [some (bxEdit e)] [Con Tryz.prog 46 [I e.From, I 0, I e.To] true (Bv true) ∧ ((I e.From : AV) = I e.From) ∧ ((I 0 : AV) = I 0) ∧ ((I e.To : AV) = I e.To) ∧ True, ¬ ((l.Text.size : Int) < e.To), ¬ (e.Kind = 3)] (by kernel_rfl) hB ⟨⟨(con_bool h4 (l00In_ok e.From 0 e.To)), rfl, rfl, rfl, trivial⟩, h5, h6, trivial⟩ ?_
        refine ae_then ?_
        refine aw_false rfl ?_
        refine aw_skip ?_
        refine ae_then ?_
        refine aw_seq ?_
        refine aw_seq ?_
        by_cases h10 : e.Kind = 1
        ·refine aw_reg [(2, .dec false)] [68] [] [Bv false] [] [¬ (e.Kind ≠ 1)] (by kernel_rfl) hB ⟨(fun hq => hq h10), trivial⟩ ?_
         refine ae_then ?_
         refine aw_false rfl ?_
         refine aw_skip ?_
         refine ae_then ?_
         refine aw_seq ?_
         refine aw_reg [] [6] [] [I 0] [] [] (by kernel_rfl) hB trivial ?_
         refine ae_then ?_
         refine aw_ret ?_
         refine ae_ret hB (I 0) (by kernel_rfl) (.inl (by refine congrArg I ?_; first | exact (chk_1 (by simp [*])).symm | exact (chk_2 (by assumption) (by assumption) (by assumption) (by omega)).symm | exact (chk_5 (by assumption) (by assumption) (by assumption) (by omega) (by omega)).symm | exact (chk_0 (by assumption) (by assumption) (by assumption) (by omega) (by omega)).symm)) rfl (fun _ => trivial)
        ·by_cases h11 : 60 < (((l.Text.size : Int) + (insert.size : Int)) - (e.To - e.From))
         ·refine aw_reg [(2, .dec true), (18, .dec true)] [68] [] [Bv true] [] [e.Kind ≠ 1, inR .i64 ((l.Text.size : Int) + (insert.size : Int)), inR .i64 (e.To - e.From), inR .i64 (((l.Text.size : Int) + (insert.size : Int)) - (e.To - e.From)), 60 < (((l.Text.size : Int) + (insert.size : Int)) - (e.To - e.From))] (by kernel_rfl) hB ⟨h10, (inR_i64 (by omega) (by omega)), (inR_i64 (by omega) (by omega)), (inR_i64 (by omega) (by omega)), h11, trivial⟩ ?_
          refine ae_then ?_
          refine aw_true rfl ?_
          refine aw_seq ?_
          refine aw_reg [] [6] [] [I 5] [] [] (by kernel_rfl) hB trivial ?_
          refine ae_then ?_
          refine aw_ret ?_
          refine ae_ret_then ?_
          refine ae_ret hB (I 5) (by kernel_rfl) (.inl (by refine congrArg I ?_; first | exact (chk_1 (by simp [*])).symm | exact (chk_2 (by assumption) (by assumption) (by assumption) (by omega)).symm | exact (chk_5 (by assumption) (by assumption) (by assumption) (by omega) (by omega)).symm | exact (chk_0 (by assumption) (by assumption) (by assumption) (by omega) (by omega)).symm)) rfl (fun _ => trivial)
         ·refine aw_reg [(2, .dec true), (18, .dec false)] [68] [] [Bv false] [] [e.Kind ≠ 1, inR .i64 ((l.Text.size : Int) + (insert.size : Int)), inR .i64 (e.To - e.From), inR .i64 (((l.Text.size : Int) + (insert.size : Int)) - (e.To - e.From)), ¬ (60 < (((l.Text.size : Int) + (insert.size : Int)) - (e.To - e.From)))] (by kernel_rfl) hB ⟨h10, (inR_i64 (by omega) (by omega)), (inR_i64 (by omega) (by omega)), (inR_i64 (by omega) (by omega)), h11, trivial⟩ ?_
          refine ae_then ?_
          refine aw_false rfl ?_
          refine aw_skip ?_
          refine ae_then ?_
          refine aw_seq ?_
          refine aw_reg [] [6] [] [I 0] [] [] (by kernel_rfl) hB trivial ?_
          refine ae_then ?_
          refine aw_ret ?_
          refine ae_ret hB (I 0) (by kernel_rfl) (.inl (by refine congrArg I ?_; first | exact (chk_1 (by simp [*])).symm | exact (chk_2 (by assumption) (by assumption) (by assumption) (by omega)).symm | exact (chk_5 (by assumption) (by assumption) (by assumption) (by omega) (by omega)).symm | exact (chk_0 (by assumption) (by assumption) (by assumption) (by omega) (by omega)).symm)) rfl (fun _ => trivial)
     ·have hinh4 := (not_congr inB_iff).1 (Bool.eq_false_iff.1 h4)
      refine aw_reg [(4, .call [(true, I e.From), (true, I 0), (true, I e.To)] true (Bv false))] [0, 2, 4, 48] [4] [.ptr false [Sv l.Text, I l.X, I l.Y, I l.Cell], Sv insert, .ref 4 0, Bv true] [some (bxEdit e)] [Con Tryz.prog 46 [I e.From, I 0, I e.To] true (Bv false) ∧ ((I e.From : AV) = I e.From) ∧ ((I 0 : AV) = I 0) ∧ ((I e.To : AV) = I e.To) ∧ True] (by kernel_rfl) hB ⟨⟨(con_bool h4 (l00In_ok e.From 0 e.To)), rfl, rfl, rfl, trivial⟩, trivial⟩ ?_
      refine ae_then ?_
      refine aw_true rfl ?_
      refine aw_seq ?_
      refine aw_reg [] [6] [] [I 2] [] [] (by kernel_rfl) hB trivial ?_
      refine ae_then ?_
      refine aw_ret ?_
      refine ae_ret_then ?_
      refine ae_ret hB (I 2) (by kernel_rfl) (.inl (by refine congrArg I ?_; first | exact (chk_1 (by simp [*])).symm | exact (chk_2 (by assumption) (by assumption) (by assumption) (by omega)).symm | exact (chk_5 (by assumption) (by assumption) (by assumption) (by omega) (by omega)).symm | exact (chk_0 (by assumption) (by assumption) (by assumption) (by omega) (by omega)).symm)) rfl (fun _ => trivial)
    ·have hinh3 := (not_congr inB_iff).1 (Bool.eq_false_iff.1 h3)
     refine aw_reg [(1, .call [(true, .ptr false [Sv l.Text, I l.X, I l.Y, I l.Cell])] true (Bv true)), (5, .call [(true, Sv insert)] true (Bv true)), (11, .call [(true, I e.Kind), (true, I 1), (true, I 3)] true (Bv false))] [0, 2, 4, 20] [4] [.ptr false [Sv l.Text, I l.X, I l.Y, I l.Cell], Sv insert, .ref 4 0, Bv true] [some (bxEdit e)] [Con Tryz.prog 45 [.ptr false [Sv l.Text, I l.X, I l.Y, I l.Cell]] true (Bv true) ∧ ((.ptr false [Sv l.Text, I l.X, I l.Y, I l.Cell] : AV) = .ptr false [Sv l.Text, I l.X, I l.Y, I l.Cell]) ∧ True, Con Tryz.prog 78 [Sv insert] true (Bv true) ∧ ((Sv insert : AV) = Sv insert) ∧ True, Con Tryz.prog 46 [I e.Kind, I 1, I 3] true (Bv false) ∧ ((I e.Kind : AV) = I e.Kind) ∧ ((I 1 : AV) = I 1) ∧ ((I 3 : AV) = I 3) ∧ True] (by kernel_rfl) hB ⟨⟨(con_bool h1 (l23Ok_ok l okl)), rfl, trivial⟩, ⟨(con_bool h2 (l23Letters_ok insert (by omega))), rfl, trivial⟩, ⟨(con_bool h3 (l00In_ok e.Kind 1 3)), rfl, rfl, rfl, trivial⟩, trivial⟩ ?_
     refine ae_then ?_
     refine aw_true rfl ?_
     refine aw_seq ?_
     refine aw_reg [] [6] [] [I 1] [] [] (by kernel_rfl) hB trivial ?_
     refine ae_then ?_
     refine aw_ret ?_
     refine ae_ret_then ?_
     refine ae_ret hB (I 1) (by kernel_rfl) (.inl (by refine congrArg I ?_; first | exact (chk_1 (by simp [*])).symm | exact (chk_2 (by assumption) (by assumption) (by assumption) (by omega)).symm | exact (chk_5 (by assumption) (by assumption) (by assumption) (by omega) (by omega)).symm | exact (chk_0 (by assumption) (by assumption) (by assumption) (by omega) (by omega)).symm)) rfl (fun _ => trivial)
   ·refine aw_reg [(1, .call [(true, .ptr false [Sv l.Text, I l.X, I l.Y, I l.Cell])] true (Bv true)), (5, .call [(true, Sv insert)] true (Bv false))] [0, 2, 4, 20] [4] [.ptr false [Sv l.Text, I l.X, I l.Y, I l.Cell], Sv insert, .ref 4 0, Bv true] [some (bxEdit e)] [Con Tryz.prog 45 [.ptr false [Sv l.Text, I l.X, I l.Y, I l.Cell]] true (Bv true) ∧ ((.ptr false [Sv l.Text, I l.X, I l.Y, I l.Cell] : AV) = .ptr false [Sv l.Text, I l.X, I l.Y, I l.Cell]) ∧ True, Con Tryz.prog 78 [Sv insert] true (Bv false) ∧ ((Sv insert : AV) = Sv insert) ∧ True] (by kernel_rfl) hB ⟨⟨(con_bool h1 (l23Ok_ok l okl)), rfl, trivial⟩, ⟨(con_bool h2 (l23Letters_ok insert (by omega))), rfl, trivial⟩, trivial⟩ ?_
    refine ae_then ?_
    refine aw_true rfl ?_
    refine aw_seq ?_
    refine aw_reg [] [6] [] [I 1] [] [] (by kernel_rfl) hB trivial ?_
    refine ae_then ?_
    refine aw_ret ?_
    refine ae_ret_then ?_
    refine ae_ret hB (I 1) (by kernel_rfl) (.inl (by refine congrArg I ?_; first | exact (chk_1 (by simp [*])).symm | exact (chk_2 (by assumption) (by assumption) (by assumption) (by omega)).symm | exact (chk_5 (by assumption) (by assumption) (by assumption) (by omega) (by omega)).symm | exact (chk_0 (by assumption) (by assumption) (by assumption) (by omega) (by omega)).symm)) rfl (fun _ => trivial)
  ·refine aw_reg [(1, .call [(true, .ptr false [Sv l.Text, I l.X, I l.Y, I l.Cell])] true (Bv false))] [0, 2, 4, 20] [4] [.ptr false [Sv l.Text, I l.X, I l.Y, I l.Cell], Sv insert, .ref 4 0, Bv true] [some (bxEdit e)] [Con Tryz.prog 45 [.ptr false [Sv l.Text, I l.X, I l.Y, I l.Cell]] true (Bv false) ∧ ((.ptr false [Sv l.Text, I l.X, I l.Y, I l.Cell] : AV) = .ptr false [Sv l.Text, I l.X, I l.Y, I l.Cell]) ∧ True] (by kernel_rfl) hB ⟨⟨(con_bool h1 (l23Ok_ok l okl)), rfl, trivial⟩, trivial⟩ ?_
   refine ae_then ?_
   refine aw_true rfl ?_
   refine aw_seq ?_
   refine aw_reg [] [6] [] [I 1] [] [] (by kernel_rfl) hB trivial ?_
   refine ae_then ?_
   refine aw_ret ?_
   refine ae_ret_then ?_
   refine ae_ret hB (I 1) (by kernel_rfl) (.inl (by refine congrArg I ?_; first | exact (chk_1 (by simp [*])).symm | exact (chk_2 (by assumption) (by assumption) (by assumption) (by omega)).symm | exact (chk_5 (by assumption) (by assumption) (by assumption) (by omega) (by omega)).symm | exact (chk_0 (by assumption) (by assumption) (by assumption) (by omega) (by omega)).symm)) rfl (fun _ => trivial)


-- spec.l23Apply
theorem l23Apply_ok (l : CellRow) (e : Edit) (insert : ByteArray) (okl : l.Text.size ≤ 9223372036854775807) (oki : insert.size ≤ 1048576) (hck0 : chkI l e insert = 0) : Con Tryz.prog 53 [agCellRow l, agEdit e, Sv insert] true (agCellRow (applyL l e insert)) := by
  have hck := chk_ok hck0
  have hr := okRow_iff.1 hck.1
  refine fn_ok (fn := Tryz.f53) (nt := 25) Tryz.func53 rfl rfl rfl rfl (by simp [taggedL, tagged]) fun B hB => ?_
  refine aw_seq ?_
  refine aw_reg [(0, .new 3), (1, .new 4), (2, .new 6)] [2, 3, 4, 6] [3, 4, 6] [Sv insert, .ref 3 0, .ref 4 0, .ref 6 0] [some (bxCellRow l), some (bxEdit e), some (.box [Sv (⟨#[]⟩ : ByteArray), I 0, I 0, I 0])] [] (by kernel_rfl) hB trivial ?_
  refine ae_then ?_
  refine aw_seq ?_
  refine aw_seq ?_
  by_cases h1 : e.Kind = 1
  ·refine aw_reg [(2, .dec true)] [2, 3, 4, 6, 9] [3, 4, 6] [Sv insert, .ref 3 0, .ref 4 0, .ref 6 0, Bv true] [some (bxCellRow l), some (bxEdit e), some (.box [Sv (⟨#[]⟩ : ByteArray), I 0, I 0, I 0])] [e.Kind = 1] (by kernel_rfl) hB ⟨h1, trivial⟩ ?_
   refine ae_then ?_
   refine aw_true rfl ?_
   refine aw_reg [] [2, 3, 4, 6] [3, 4, 6] [Sv (⟨#[]⟩ : ByteArray), .ref 3 0, .ref 4 0, .ref 6 0] [some (bxCellRow l), some (bxEdit e), some (.box [Sv (⟨#[]⟩ : ByteArray), I 0, I 0, I 0])] [] (by kernel_rfl) hB trivial ?_
   refine ae_then ?_
   refine aw_seq ?_
   refine aw_reg [] [3, 6] [3, 6] [.ref 3 0, .ref 6 0] [some (.box [Sv (((l.Text.extract 0 e.From.toNat) ++ (⟨#[]⟩ : ByteArray)) ++ (l.Text.extract e.To.toNat (l.Text.size : Int).toNat)), I l.X, I l.Y, I l.Cell]), some (.box [Sv (⟨#[]⟩ : ByteArray), I 0, I 0, I 0])] [(0 : Int) ≤ 0 ∧ (0 : Int) ≤ e.From ∧ e.From ≤ (l.Text.size : Int), (l.Text.extract 0 e.From.toNat).size + (⟨#[]⟩ : ByteArray).size ≤ 9223372036854775807, (0 : Int) ≤ e.To ∧ e.To ≤ (l.Text.size : Int) ∧ (l.Text.size : Int) ≤ (l.Text.size : Int), ((l.Text.extract 0 e.From.toNat) ++ (⟨#[]⟩ : ByteArray)).size + (l.Text.extract e.To.toNat (l.Text.size : Int).toNat).size ≤ 9223372036854775807] (by kernel_rfl) hB ⟨⟨(by omega), (by omega), (by omega)⟩, (by first | omega | (simp only [ByteArray.size_append, ba_ext, ba_nil]; omega)), ⟨(by omega), (by omega), (by omega)⟩, (by first | omega | (simp only [ByteArray.size_append, ba_ext, ba_nil]; omega)), trivial⟩ ?_
   refine ae_then ?_
   refine aw_seq ?_
   refine aw_reg [] [6] [6] [.ref 6 0] [some (.box [Sv (((l.Text.extract 0 e.From.toNat) ++ (⟨#[]⟩ : ByteArray)) ++ (l.Text.extract e.To.toNat (l.Text.size : Int).toNat)), I l.X, I l.Y, I l.Cell])] [] (by kernel_rfl) hB trivial ?_
   refine ae_then ?_
   refine aw_ret ?_
   refine ae_ret hB (.agg [Sv (((l.Text.extract 0 e.From.toNat) ++ (⟨#[]⟩ : ByteArray)) ++ (l.Text.extract e.To.toNat (l.Text.size : Int).toNat)), I l.X, I l.Y, I l.Cell]) (by kernel_rfl) (.inl (by simp [applyL, applyT, *])) rfl (fun _ => (by simp [tagged, taggedL]))
  ·refine aw_reg [(2, .dec false)] [2, 3, 4, 6, 9] [3, 4, 6] [Sv insert, .ref 3 0, .ref 4 0, .ref 6 0, Bv false] [some (bxCellRow l), some (bxEdit e), some (.box [Sv (⟨#[]⟩ : ByteArray), I 0, I 0, I 0])] [¬ (e.Kind = 1)] (by kernel_rfl) hB ⟨h1, trivial⟩ ?_
   refine ae_then ?_
   refine aw_false rfl ?_
   refine aw_skip ?_
   refine ae_then ?_
   refine aw_seq ?_
   refine aw_reg [] [3, 6] [3, 6] [.ref 3 0, .ref 6 0] [some (.box [Sv (((l.Text.extract 0 e.From.toNat) ++ insert) ++ (l.Text.extract e.To.toNat (l.Text.size : Int).toNat)), I l.X, I l.Y, I l.Cell]), some (.box [Sv (⟨#[]⟩ : ByteArray), I 0, I 0, I 0])] [(0 : Int) ≤ 0 ∧ (0 : Int) ≤ e.From ∧ e.From ≤ (l.Text.size : Int), (l.Text.extract 0 e.From.toNat).size + insert.size ≤ 9223372036854775807, (0 : Int) ≤ e.To ∧ e.To ≤ (l.Text.size : Int) ∧ (l.Text.size : Int) ≤ (l.Text.size : Int), ((l.Text.extract 0 e.From.toNat) ++ insert).size + (l.Text.extract e.To.toNat (l.Text.size : Int).toNat).size ≤ 9223372036854775807] (by kernel_rfl) hB ⟨⟨(by omega), (by omega), (by omega)⟩, (by first | omega | (simp only [ByteArray.size_append, ba_ext, ba_nil]; omega)), ⟨(by omega), (by omega), (by omega)⟩, (by first | omega | (simp only [ByteArray.size_append, ba_ext, ba_nil]; omega)), trivial⟩ ?_
   refine ae_then ?_
   refine aw_seq ?_
   refine aw_reg [] [6] [6] [.ref 6 0] [some (.box [Sv (((l.Text.extract 0 e.From.toNat) ++ insert) ++ (l.Text.extract e.To.toNat (l.Text.size : Int).toNat)), I l.X, I l.Y, I l.Cell])] [] (by kernel_rfl) hB trivial ?_
   refine ae_then ?_
   refine aw_ret ?_
   refine ae_ret hB (.agg [Sv (((l.Text.extract 0 e.From.toNat) ++ insert) ++ (l.Text.extract e.To.toNat (l.Text.size : Int).toNat)), I l.X, I l.Y, I l.Cell]) (by kernel_rfl) (.inl (by simp [applyL, applyT, *])) rfl (fun _ => (by simp [tagged, taggedL]))


-- spec.ApplyEdit
theorem specApplyEdit_ok (l : CellRow) (e : Edit) (insert : ByteArray) (okl : l.Text.size ≤ 9223372036854775807) (oki : insert.size ≤ 1048576) : Con Tryz.prog 24 [agCellRow l, agEdit e, Sv insert] true (.tup [agCellRow (applyRow l e insert), I (chkI l e insert)]) := by
  refine fn_ok (fn := Tryz.f24) (nt := 20) Tryz.func24 rfl rfl rfl rfl (by simp [taggedL, tagged]) fun B hB => ?_
  refine aw_seq ?_
  refine aw_reg [(0, .new 3), (1, .new 4), (2, .new 6)] [2, 3, 4, 6] [3, 4, 6] [Sv insert, .ref 3 0, .ref 4 0, .ref 6 0] [some (bxCellRow l), some (bxEdit e), some (.box [Sv (⟨#[]⟩ : ByteArray), I 0, I 0, I 0])] [] (by kernel_rfl) hB trivial ?_
  refine ae_then ?_
  refine aw_seq ?_
  refine aw_reg [(2, .call [(false, .ptr false [Sv l.Text, I l.X, I l.Y, I l.Cell]), (true, agEdit e), (true, Sv insert)] true (I (chkI l e insert)))] [2, 3, 4, 6, 8] [3, 4, 6] [Sv insert, .ref 3 0, .ref 4 0, .ref 6 0, I (chkI l e insert)] [some (bxCellRow l), some (bxEdit e), some (.box [Sv (⟨#[]⟩ : ByteArray), I 0, I 0, I 0])] [Con Tryz.prog 52 [.ptr false [Sv l.Text, I l.X, I l.Y, I l.Cell], agEdit e, Sv insert] true (I (chkI l e insert)) ∧ ((false = true → true = true) ∧ AV.idsL [Sv l.Text, I l.X, I l.Y, I l.Cell] = [] ∧ (valOf (Sv l.Text) = valOf (Sv l.Text)) ∧ (valOf (I l.X) = valOf (I l.X)) ∧ (valOf (I l.Y) = valOf (I l.Y)) ∧ (valOf (I l.Cell) = valOf (I l.Cell)) ∧ ([] : List AV) = []) ∧ ((agEdit e : AV) = agEdit e) ∧ ((Sv insert : AV) = Sv insert) ∧ True] (by kernel_rfl) hB ⟨⟨(l23Check_ok l e insert okl oki), ⟨(fun h => by cases h), rfl, ⟨rfl, ⟨rfl, ⟨rfl, ⟨rfl, rfl⟩⟩⟩⟩⟩, rfl, rfl, trivial⟩, trivial⟩ ?_
  refine ae_then ?_
  refine aw_seq ?_
  refine aw_seq ?_
  by_cases h1 : (chkI l e insert) = 0
  ·have hck := chk_ok h1
   have hr := okRow_iff.1 hck.1
   refine aw_reg [(1, .dec false)] [2, 3, 4, 6, 8, 13] [3, 4, 6] [Sv insert, .ref 3 0, .ref 4 0, .ref 6 0, I (chkI l e insert), Bv false] [some (bxCellRow l), some (bxEdit e), some (.box [Sv (⟨#[]⟩ : ByteArray), I 0, I 0, I 0])] [¬ ((chkI l e insert) ≠ 0)] (by kernel_rfl) hB ⟨(fun hq => hq h1), trivial⟩ ?_
   refine ae_then ?_
   refine aw_false rfl ?_
   refine aw_skip ?_
   refine ae_then ?_
   refine aw_seq ?_
   refine aw_reg [(3, .call [(true, agCellRow l), (true, agEdit e), (true, Sv insert)] true (agCellRow (applyL l e insert)))] [6, 7] [6] [.ref 6 0, I 0] [some (bxCellRow (applyL l e insert))] [Con Tryz.prog 53 [agCellRow l, agEdit e, Sv insert] true (agCellRow (applyL l e insert)) ∧ ((agCellRow l : AV) = agCellRow l) ∧ ((agEdit e : AV) = agEdit e) ∧ ((Sv insert : AV) = Sv insert) ∧ True] (by kernel_rfl) hB ⟨⟨(l23Apply_ok l e insert okl oki (by assumption)), rfl, rfl, rfl, trivial⟩, trivial⟩ ?_
   refine ae_then ?_
   refine aw_ret ?_
   refine ae_ret hB (.tup [agCellRow (applyL l e insert), I 0]) (by kernel_rfl) (.inl (by first | (rw [applyRow_eq (by assumption)]; simp [*]; done) | (rw [applyRow_ne rfl (by assumption)]; done))) rfl (fun _ => (by simp [tagged, taggedL]))
  ·refine aw_reg [(1, .dec true)] [2, 3, 4, 6, 8, 13] [3, 4, 6] [Sv insert, .ref 3 0, .ref 4 0, .ref 6 0, I (chkI l e insert), Bv true] [some (bxCellRow l), some (bxEdit e), some (.box [Sv (⟨#[]⟩ : ByteArray), I 0, I 0, I 0])] [(chkI l e insert) ≠ 0] (by kernel_rfl) hB ⟨h1, trivial⟩ ?_
   refine ae_then ?_
   refine aw_true rfl ?_
   refine aw_seq ?_
   refine aw_reg [] [6, 7] [6] [.ref 6 0, I (chkI l e insert)] [some (.box [Sv (⟨#[]⟩ : ByteArray), I 0, I 0, I 0])] [] (by kernel_rfl) hB trivial ?_
   refine ae_then ?_
   refine aw_ret ?_
   refine ae_ret_then ?_
   refine ae_ret hB (.tup [.agg [Sv (⟨#[]⟩ : ByteArray), I 0, I 0, I 0], I (chkI l e insert)]) (by kernel_rfl) (.inl (by first | (rw [applyRow_eq (by assumption)]; simp [*]; done) | (rw [applyRow_ne rfl (by assumption)]; done))) rfl (fun _ => (by simp [tagged, taggedL]))


-- impl.InverseEdit
theorem implInverseEdit_ok (l : CellRow) (e : Edit) (insert : ByteArray) (okl : l.Text.size ≤ 9223372036854775807) (oki : insert.size ≤ 1048576) : Con Tryz.prog 25 [agCellRow l, agEdit e, Sv insert] true (.tup [agEdit (invE l e insert), Sv (invT l e insert), I (chkI l e insert)]) := by
  refine fn_ok (fn := Tryz.f25) (nt := 57) Tryz.func25 rfl rfl rfl rfl (by simp [taggedL, tagged]) fun B hB => ?_
  refine aw_seq ?_
  refine aw_reg [(0, .new 3), (1, .new 4), (2, .new 6)] [2, 3, 4, 6] [3, 4, 6] [Sv insert, .ref 3 0, .ref 4 0, .ref 6 0] [some (bxCellRow l), some (bxEdit e), some (.box [I 0, I 0, I 0])] [] (by kernel_rfl) hB trivial ?_
  refine ae_then ?_
  refine aw_seq ?_
  refine aw_seq ?_
  refine aw_reg [(3, .call [(true, agCellRow l), (true, agEdit e), (true, Sv insert)] true (.tup [agCellRow (applyRow l e insert), I (chkI l e insert)])), (7, .new 9)] [2, 3, 4, 6, 10] [3, 4, 6] [Sv insert, .ref 3 0, .ref 4 0, .ref 6 0, I (chkI l e insert)] [some (bxCellRow l), some (bxEdit e), some (.box [I 0, I 0, I 0])] [Con Tryz.prog 23 [agCellRow l, agEdit e, Sv insert] true (.tup [agCellRow (applyRow l e insert), I (chkI l e insert)]) ∧ ((agCellRow l : AV) = agCellRow l) ∧ ((agEdit e : AV) = agEdit e) ∧ ((Sv insert : AV) = Sv insert) ∧ True] (by kernel_rfl) hB ⟨⟨(implApplyEdit_ok l e insert okl oki), rfl, rfl, rfl, trivial⟩, trivial⟩ ?_
  refine ae_then ?_
  refine aw_seq ?_
  by_cases h1 : (chkI l e insert) = 0
  ·have hck := chk_ok h1
   have hr := okRow_iff.1 hck.1
   refine aw_reg [(1, .dec false)] [2, 3, 4, 6, 10, 21] [3, 4, 6] [Sv insert, .ref 3 0, .ref 4 0, .ref 6 0, I (chkI l e insert), Bv false] [some (bxCellRow l), some (bxEdit e), some (.box [I 0, I 0, I 0])] [¬ ((chkI l e insert) ≠ 0)] (by kernel_rfl) hB ⟨(fun hq => hq h1), trivial⟩ ?_
   refine ae_then ?_
   refine aw_false rfl ?_
   refine aw_skip ?_
   refine ae_then ?_
   refine aw_seq ?_
   refine aw_reg [] [4, 6, 11, 12] [4, 6] [.ref 4 0, .ref 6 0, Sv (l.Text.extract e.From.toNat e.To.toNat), I (e.From + (insert.size : Int))] [some (bxEdit e), some (.box [I 0, I 0, I 0])] [(0 : Int) ≤ e.From ∧ e.From ≤ e.To ∧ e.To ≤ (l.Text.size : Int), inR .i64 (e.From + (insert.size : Int))] (by kernel_rfl) hB ⟨⟨(by omega), (by omega), (by omega)⟩, (inR_i64 (by omega) (by omega)), trivial⟩ ?_
   refine ae_then ?_
   refine aw_seq ?_
   refine aw_seq ?_
   refine aw_reg [] [4, 6, 11, 12, 37] [4, 6] [.ref 4 0, .ref 6 0, Sv (l.Text.extract e.From.toNat e.To.toNat), I (e.From + (insert.size : Int)), I e.Kind] [some (bxEdit e), some (.box [I 0, I 0, I 0])] [] (by kernel_rfl) hB trivial ?_
   refine ae_then ?_
   refine aw_block ?_
   refine aw_seq ?_
   by_cases h2 : e.Kind = 1
   ·refine aw_reg [(0, .dec true)] [4, 6, 11, 12, 37, 38] [4, 6] [.ref 4 0, .ref 6 0, Sv (l.Text.extract e.From.toNat e.To.toNat), I (e.From + (insert.size : Int)), I e.Kind, Bv true] [some (bxEdit e), some (.box [I 0, I 0, I 0])] [e.Kind = 1] (by kernel_rfl) hB ⟨h2, trivial⟩ ?_
    refine ae_then ?_
    refine aw_true rfl ?_
    refine aw_seq ?_
    refine aw_reg [] [6, 7, 8] [6] [.ref 6 0, Sv (l.Text.extract e.From.toNat e.To.toNat), I 0] [some (.box [I 3, I e.From, I e.From])] [] (by kernel_rfl) hB trivial ?_
    refine ae_then ?_
    refine aw_ret ?_
    refine ae_ret_block (ae_ret_then ?_)
    refine ae_ret hB (.tup [.agg [I 3, I e.From, I e.From], Sv (l.Text.extract e.From.toNat e.To.toNat), I 0]) (by kernel_rfl) (.inl (by simp [invE, invT, *])) rfl (fun _ => (by simp [tagged, taggedL]))
   ·refine aw_reg [(0, .dec false)] [4, 6, 11, 12, 37, 38] [4, 6] [.ref 4 0, .ref 6 0, Sv (l.Text.extract e.From.toNat e.To.toNat), I (e.From + (insert.size : Int)), I e.Kind, Bv false] [some (bxEdit e), some (.box [I 0, I 0, I 0])] [¬ (e.Kind = 1)] (by kernel_rfl) hB ⟨h2, trivial⟩ ?_
    refine ae_then ?_
    refine aw_false rfl ?_
    refine aw_seq ?_
    by_cases h3 : e.Kind = 3
    ·refine aw_reg [(0, .dec true)] [4, 6, 11, 12, 46] [4, 6] [.ref 4 0, .ref 6 0, Sv (l.Text.extract e.From.toNat e.To.toNat), I (e.From + (insert.size : Int)), Bv true] [some (bxEdit e), some (.box [I 0, I 0, I 0])] [e.Kind = 3] (by kernel_rfl) hB ⟨h3, trivial⟩ ?_
     refine ae_then ?_
     refine aw_true rfl ?_
     refine aw_seq ?_
     refine aw_reg [] [6, 7, 8] [6] [.ref 6 0, Sv (⟨#[]⟩ : ByteArray), I 0] [some (.box [I 1, I e.From, I (e.From + (insert.size : Int))])] [] (by kernel_rfl) hB trivial ?_
     refine ae_then ?_
     refine aw_ret ?_
     refine ae_ret_block (ae_ret_then ?_)
     refine ae_ret hB (.tup [.agg [I 1, I e.From, I (e.From + (insert.size : Int))], Sv (⟨#[]⟩ : ByteArray), I 0]) (by kernel_rfl) (.inl (by simp [invE, invT, *])) rfl (fun _ => (by simp [tagged, taggedL]))
    ·refine aw_reg [(0, .dec false)] [4, 6, 11, 12, 46] [4, 6] [.ref 4 0, .ref 6 0, Sv (l.Text.extract e.From.toNat e.To.toNat), I (e.From + (insert.size : Int)), Bv false] [some (bxEdit e), some (.box [I 0, I 0, I 0])] [¬ (e.Kind = 3)] (by kernel_rfl) hB ⟨h3, trivial⟩ ?_
     refine ae_then ?_
     refine aw_false rfl ?_
     refine aw_skip ?_
     refine ae_block 0 ?_
     refine ae_then ?_
     refine aw_seq ?_
     refine aw_reg [] [6, 7, 8] [6] [.ref 6 0, Sv (l.Text.extract e.From.toNat e.To.toNat), I 0] [some (.box [I 2, I e.From, I (e.From + (insert.size : Int))])] [] (by kernel_rfl) hB trivial ?_
     refine ae_then ?_
     refine aw_ret ?_
     refine ae_ret hB (.tup [.agg [I 2, I e.From, I (e.From + (insert.size : Int))], Sv (l.Text.extract e.From.toNat e.To.toNat), I 0]) (by kernel_rfl) (.inl (by simp [invE, invT, *])) rfl (fun _ => (by simp [tagged, taggedL]))
  ·refine aw_reg [(1, .dec true)] [2, 3, 4, 6, 10, 21] [3, 4, 6] [Sv insert, .ref 3 0, .ref 4 0, .ref 6 0, I (chkI l e insert), Bv true] [some (bxCellRow l), some (bxEdit e), some (.box [I 0, I 0, I 0])] [(chkI l e insert) ≠ 0] (by kernel_rfl) hB ⟨h1, trivial⟩ ?_
   refine ae_then ?_
   refine aw_true rfl ?_
   refine aw_seq ?_
   refine aw_reg [] [6, 7, 8] [6] [.ref 6 0, Sv (⟨#[]⟩ : ByteArray), I (chkI l e insert)] [some (.box [I 0, I 0, I 0])] [] (by kernel_rfl) hB trivial ?_
   refine ae_then ?_
   refine aw_ret ?_
   refine ae_ret_then ?_
   refine ae_ret hB (.tup [.agg [I 0, I 0, I 0], Sv (⟨#[]⟩ : ByteArray), I (chkI l e insert)]) (by kernel_rfl) (.inl (by simp [invE, invT, *])) rfl (fun _ => (by simp [tagged, taggedL]))


-- spec.InverseEdit
theorem specInverseEdit_ok (l : CellRow) (e : Edit) (insert : ByteArray) (okl : l.Text.size ≤ 9223372036854775807) (oki : insert.size ≤ 1048576) : Con Tryz.prog 26 [agCellRow l, agEdit e, Sv insert] true (.tup [agEdit (invE l e insert), Sv (invT l e insert), I (chkI l e insert)]) := by
  refine fn_ok (fn := Tryz.f26) (nt := 54) Tryz.func26 rfl rfl rfl rfl (by simp [taggedL, tagged]) fun B hB => ?_
  refine aw_seq ?_
  refine aw_reg [(0, .new 3), (1, .new 4), (2, .new 6)] [2, 3, 4, 6] [3, 4, 6] [Sv insert, .ref 3 0, .ref 4 0, .ref 6 0] [some (bxCellRow l), some (bxEdit e), some (.box [I 0, I 0, I 0])] [] (by kernel_rfl) hB trivial ?_
  refine ae_then ?_
  refine aw_seq ?_
  refine aw_reg [(2, .call [(false, .ptr false [Sv l.Text, I l.X, I l.Y, I l.Cell]), (true, agEdit e), (true, Sv insert)] true (I (chkI l e insert)))] [2, 3, 4, 6, 9] [3, 4, 6] [Sv insert, .ref 3 0, .ref 4 0, .ref 6 0, I (chkI l e insert)] [some (bxCellRow l), some (bxEdit e), some (.box [I 0, I 0, I 0])] [Con Tryz.prog 52 [.ptr false [Sv l.Text, I l.X, I l.Y, I l.Cell], agEdit e, Sv insert] true (I (chkI l e insert)) ∧ ((false = true → true = true) ∧ AV.idsL [Sv l.Text, I l.X, I l.Y, I l.Cell] = [] ∧ (valOf (Sv l.Text) = valOf (Sv l.Text)) ∧ (valOf (I l.X) = valOf (I l.X)) ∧ (valOf (I l.Y) = valOf (I l.Y)) ∧ (valOf (I l.Cell) = valOf (I l.Cell)) ∧ ([] : List AV) = []) ∧ ((agEdit e : AV) = agEdit e) ∧ ((Sv insert : AV) = Sv insert) ∧ True] (by kernel_rfl) hB ⟨⟨(l23Check_ok l e insert okl oki), ⟨(fun h => by cases h), rfl, ⟨rfl, ⟨rfl, ⟨rfl, ⟨rfl, rfl⟩⟩⟩⟩⟩, rfl, rfl, trivial⟩, trivial⟩ ?_
  refine ae_then ?_
  refine aw_seq ?_
  refine aw_seq ?_
  by_cases h1 : (chkI l e insert) = 0
  ·have hck := chk_ok h1
   have hr := okRow_iff.1 hck.1
   refine aw_reg [(1, .dec false)] [2, 3, 4, 6, 9, 15] [3, 4, 6] [Sv insert, .ref 3 0, .ref 4 0, .ref 6 0, I (chkI l e insert), Bv false] [some (bxCellRow l), some (bxEdit e), some (.box [I 0, I 0, I 0])] [¬ ((chkI l e insert) ≠ 0)] (by kernel_rfl) hB ⟨(fun hq => hq h1), trivial⟩ ?_
   refine ae_then ?_
   refine aw_false rfl ?_
   refine aw_skip ?_
   refine ae_then ?_
   refine aw_seq ?_
   refine aw_reg [] [2, 4, 6, 10] [4, 6] [Sv insert, .ref 4 0, .ref 6 0, Sv (l.Text.extract e.From.toNat e.To.toNat)] [some (bxEdit e), some (.box [I 0, I 0, I 0])] [(0 : Int) ≤ e.From ∧ e.From ≤ e.To ∧ e.To ≤ (l.Text.size : Int)] (by kernel_rfl) hB ⟨⟨(by omega), (by omega), (by omega)⟩, trivial⟩ ?_
   refine ae_then ?_
   refine aw_seq ?_
   refine aw_seq ?_
   refine aw_reg [] [2, 4, 6, 10, 26] [4, 6] [Sv insert, .ref 4 0, .ref 6 0, Sv (l.Text.extract e.From.toNat e.To.toNat), I e.Kind] [some (bxEdit e), some (.box [I 0, I 0, I 0])] [] (by kernel_rfl) hB trivial ?_
   refine ae_then ?_
   refine aw_block ?_
   refine aw_seq ?_
   by_cases h2 : e.Kind = 1
   ·refine aw_reg [(0, .dec true)] [2, 4, 6, 10, 26, 27] [4, 6] [Sv insert, .ref 4 0, .ref 6 0, Sv (l.Text.extract e.From.toNat e.To.toNat), I e.Kind, Bv true] [some (bxEdit e), some (.box [I 0, I 0, I 0])] [e.Kind = 1] (by kernel_rfl) hB ⟨h2, trivial⟩ ?_
    refine ae_then ?_
    refine aw_true rfl ?_
    refine aw_seq ?_
    refine aw_reg [] [6, 7, 8] [6] [.ref 6 0, Sv (l.Text.extract e.From.toNat e.To.toNat), I 0] [some (.box [I 3, I e.From, I e.From])] [] (by kernel_rfl) hB trivial ?_
    refine ae_then ?_
    refine aw_ret ?_
    refine ae_ret_block (ae_ret_then ?_)
    refine ae_ret hB (.tup [.agg [I 3, I e.From, I e.From], Sv (l.Text.extract e.From.toNat e.To.toNat), I 0]) (by kernel_rfl) (.inl (by simp [invE, invT, *])) rfl (fun _ => (by simp [tagged, taggedL]))
   ·refine aw_reg [(0, .dec false)] [2, 4, 6, 10, 26, 27] [4, 6] [Sv insert, .ref 4 0, .ref 6 0, Sv (l.Text.extract e.From.toNat e.To.toNat), I e.Kind, Bv false] [some (bxEdit e), some (.box [I 0, I 0, I 0])] [¬ (e.Kind = 1)] (by kernel_rfl) hB ⟨h2, trivial⟩ ?_
    refine ae_then ?_
    refine aw_false rfl ?_
    refine aw_seq ?_
    by_cases h3 : e.Kind = 3
    ·refine aw_reg [(0, .dec true)] [2, 4, 6, 10, 35] [4, 6] [Sv insert, .ref 4 0, .ref 6 0, Sv (l.Text.extract e.From.toNat e.To.toNat), Bv true] [some (bxEdit e), some (.box [I 0, I 0, I 0])] [e.Kind = 3] (by kernel_rfl) hB ⟨h3, trivial⟩ ?_
     refine ae_then ?_
     refine aw_true rfl ?_
     refine aw_seq ?_
     refine aw_reg [] [6, 7, 8] [6] [.ref 6 0, Sv (⟨#[]⟩ : ByteArray), I 0] [some (.box [I 1, I e.From, I (e.From + (insert.size : Int))])] [inR .i64 (e.From + (insert.size : Int))] (by kernel_rfl) hB ⟨(inR_i64 (by omega) (by omega)), trivial⟩ ?_
     refine ae_then ?_
     refine aw_ret ?_
     refine ae_ret_block (ae_ret_then ?_)
     refine ae_ret hB (.tup [.agg [I 1, I e.From, I (e.From + (insert.size : Int))], Sv (⟨#[]⟩ : ByteArray), I 0]) (by kernel_rfl) (.inl (by simp [invE, invT, *])) rfl (fun _ => (by simp [tagged, taggedL]))
    ·refine aw_reg [(0, .dec false)] [2, 4, 6, 10, 35] [4, 6] [Sv insert, .ref 4 0, .ref 6 0, Sv (l.Text.extract e.From.toNat e.To.toNat), Bv false] [some (bxEdit e), some (.box [I 0, I 0, I 0])] [¬ (e.Kind = 3)] (by kernel_rfl) hB ⟨h3, trivial⟩ ?_
     refine ae_then ?_
     refine aw_false rfl ?_
     refine aw_skip ?_
     refine ae_block 0 ?_
     refine ae_then ?_
     refine aw_seq ?_
     refine aw_reg [] [6, 7, 8] [6] [.ref 6 0, Sv (l.Text.extract e.From.toNat e.To.toNat), I 0] [some (.box [I 2, I e.From, I (e.From + (insert.size : Int))])] [inR .i64 (e.From + (insert.size : Int))] (by kernel_rfl) hB ⟨(inR_i64 (by omega) (by omega)), trivial⟩ ?_
     refine ae_then ?_
     refine aw_ret ?_
     refine ae_ret hB (.tup [.agg [I 2, I e.From, I (e.From + (insert.size : Int))], Sv (l.Text.extract e.From.toNat e.To.toNat), I 0]) (by kernel_rfl) (.inl (by simp [invE, invT, *])) rfl (fun _ => (by simp [tagged, taggedL]))
  ·refine aw_reg [(1, .dec true)] [2, 3, 4, 6, 9, 15] [3, 4, 6] [Sv insert, .ref 3 0, .ref 4 0, .ref 6 0, I (chkI l e insert), Bv true] [some (bxCellRow l), some (bxEdit e), some (.box [I 0, I 0, I 0])] [(chkI l e insert) ≠ 0] (by kernel_rfl) hB ⟨h1, trivial⟩ ?_
   refine ae_then ?_
   refine aw_true rfl ?_
   refine aw_seq ?_
   refine aw_reg [] [6, 7, 8] [6] [.ref 6 0, Sv (⟨#[]⟩ : ByteArray), I (chkI l e insert)] [some (.box [I 0, I 0, I 0])] [] (by kernel_rfl) hB trivial ?_
   refine ae_then ?_
   refine aw_ret ?_
   refine ae_ret_then ?_
   refine ae_ret hB (.tup [.agg [I 0, I 0, I 0], Sv (⟨#[]⟩ : ByteArray), I (chkI l e insert)]) (by kernel_rfl) (.inl (by simp [invE, invT, *])) rfl (fun _ => (by simp [tagged, taggedL]))


-- spec.l00Min
theorem l00Min_ok (a : Int) (b : Int) : Con Tryz.prog 88 [I a, I b] true (I (min a b)) := by
  refine fn_ok (fn := Tryz.f88) (nt := 10) Tryz.func88 rfl rfl rfl rfl (by simp [taggedL, tagged]) fun B hB => ?_
  refine aw_seq ?_
  refine aw_reg [] [0, 1] [] [I a, I b] [] [] (by kernel_rfl) hB trivial ?_
  refine ae_then ?_
  refine aw_seq ?_
  refine aw_seq ?_
  by_cases h1 : a < b
  ·refine aw_reg [(2, .dec true)] [0, 1, 7] [] [I a, I b, Bv true] [] [a < b] (by kernel_rfl) hB ⟨h1, trivial⟩ ?_
   refine ae_then ?_
   refine aw_true rfl ?_
   refine aw_seq ?_
   refine aw_reg [] [4] [] [I a] [] [] (by kernel_rfl) hB trivial ?_
   refine ae_then ?_
   refine aw_ret ?_
   refine ae_ret_then ?_
   refine ae_ret hB (I a) (by kernel_rfl) (.inl (by refine congrArg I ?_; omega)) rfl (fun _ => trivial)
  ·refine aw_reg [(2, .dec false)] [0, 1, 7] [] [I a, I b, Bv false] [] [¬ (a < b)] (by kernel_rfl) hB ⟨h1, trivial⟩ ?_
   refine ae_then ?_
   refine aw_false rfl ?_
   refine aw_skip ?_
   refine ae_then ?_
   refine aw_seq ?_
   refine aw_reg [] [4] [] [I b] [] [] (by kernel_rfl) hB trivial ?_
   refine ae_then ?_
   refine aw_ret ?_
   refine ae_ret hB (I b) (by kernel_rfl) (.inl (by refine congrArg I ?_; omega)) rfl (fun _ => trivial)


-- spec.l00Max
theorem l00Max_ok (a : Int) (b : Int) : Con Tryz.prog 87 [I a, I b] true (I (max a b)) := by
  refine fn_ok (fn := Tryz.f87) (nt := 10) Tryz.func87 rfl rfl rfl rfl (by simp [taggedL, tagged]) fun B hB => ?_
  refine aw_seq ?_
  refine aw_reg [] [0, 1] [] [I a, I b] [] [] (by kernel_rfl) hB trivial ?_
  refine ae_then ?_
  refine aw_seq ?_
  refine aw_seq ?_
  by_cases h1 : b < a
  ·refine aw_reg [(2, .dec true)] [0, 1, 7] [] [I a, I b, Bv true] [] [b < a] (by kernel_rfl) hB ⟨h1, trivial⟩ ?_
   refine ae_then ?_
   refine aw_true rfl ?_
   refine aw_seq ?_
   refine aw_reg [] [4] [] [I a] [] [] (by kernel_rfl) hB trivial ?_
   refine ae_then ?_
   refine aw_ret ?_
   refine ae_ret_then ?_
   refine ae_ret hB (I a) (by kernel_rfl) (.inl (by refine congrArg I ?_; omega)) rfl (fun _ => trivial)
  ·refine aw_reg [(2, .dec false)] [0, 1, 7] [] [I a, I b, Bv false] [] [¬ (b < a)] (by kernel_rfl) hB ⟨h1, trivial⟩ ?_
   refine ae_then ?_
   refine aw_false rfl ?_
   refine aw_skip ?_
   refine ae_then ?_
   refine aw_seq ?_
   refine aw_reg [] [4] [] [I b] [] [] (by kernel_rfl) hB trivial ?_
   refine ae_then ?_
   refine aw_ret ?_
   refine ae_ret hB (I b) (by kernel_rfl) (.inl (by refine congrArg I ?_; omega)) rfl (fun _ => trivial)


def okP (p : Point) : Bool := inB p.X 0 4095 && (inB p.Y 0 4095 && inB p.T 0 3600000)
theorem okP_iff {p : Point} : okP p = true ↔ (0 ≤ p.X ∧ p.X ≤ 4095) ∧ (0 ≤ p.Y ∧ p.Y ≤ 4095) ∧ (0 ≤ p.T ∧ p.T ≤ 3600000) := by simp [okP, inB, and_assoc]
/-- Whether the point at j is valid, and later than the one ahead of it. -/
def okPt (xs : List Point) (j : Nat) : Bool := okP (at_ xs j) && (decide (j = 0) || decide ((at_ xs (j - 1)).T < (at_ xs j).T))
def okStroke' (s : Stroke) : Bool := decide (1 ≤ (s.Points.length : Int) ∧ (s.Points.length : Int) ≤ 60) && allN s.Points.length (okPt s.Points)
theorem okPt_no {xs : List Point} {i : Int} (hi : 0 < i) (h : (at_ xs i.toNat).T ≤ (at_ xs (i - 1).toNat).T) : okPt xs i.toNat = false := by
  have e : (i - 1).toNat = i.toNat - 1 := by omega
  rw [e] at h
  have : ¬ i.toNat = 0 := by omega
  simp [okPt, this]; intro _; omega
theorem okPt_bad {xs : List Point} {j : Nat} (h : okP (at_ xs j) = false) : okPt xs j = false := by simp [okPt, h]
theorem okPt_yes {xs : List Point} {i : Int} (h1 : okP (at_ xs i.toNat) = true) (hi : 0 < i) (h : ¬ (at_ xs i.toNat).T ≤ (at_ xs (i - 1).toNat).T) : okPt xs i.toNat = true := by
  have e : (i - 1).toNat = i.toNat - 1 := by omega
  rw [e] at h
  simp [okPt, h1]; right; omega
theorem okPt_zero {xs : List Point} {i : Int} (h1 : okP (at_ xs i.toNat) = true) (h0 : 0 ≤ i) (hi : ¬ 0 < i) : okPt xs i.toNat = true := by
  have : i.toNat = 0 := by omega
  simp [okPt, this] at h1 ⊢; exact h1
theorem okS_at {s : Stroke} (h : okStroke' s = true) {j : Nat} (hj : j < s.Points.length) : okP (at_ s.Points j) = true := by
  simp only [okStroke', Bool.and_eq_true] at h
  have := allN_get h.2 hj
  simp only [okPt, Bool.and_eq_true] at this
  exact this.1
theorem okS_T {s : Stroke} (h : okStroke' s = true) {j : Nat} (hj : j < s.Points.length) (h0 : 0 < j) : (at_ s.Points (j - 1)).T < (at_ s.Points j).T := by
  simp only [okStroke', Bool.and_eq_true] at h
  have := allN_get h.2 hj
  simp only [okPt, Bool.and_eq_true, Bool.or_eq_true, decide_eq_true_eq] at this
  omega
theorem okS_len {s : Stroke} (h : okStroke' s = true) : 1 ≤ (s.Points.length : Int) ∧ (s.Points.length : Int) ≤ 60 := by
  simp only [okStroke', Bool.and_eq_true, decide_eq_true_eq] at h
  exact h.1

-- spec.l23Path
theorem l23Path_ok (list : List Int) (hl : list.length ≤ 1000) : ∃ (v : Stroke), Con Tryz.prog 59 [slI false list] true (.agg [slPoint true v.Points]) := by
  have hh : ∃ r : Stroke, (True) ∧ CallOK Tryz.prog 59 [slI false list] (lookO []) true (.agg [slPoint true r.Points]) (lookO []) := by
    refine fn_okX (Φ := fun r : Stroke => True) [] (fun r => []) (fn := Tryz.f59) (nt := 38) Tryz.func59 rfl rfl (args := [slI false list]) rfl (allcons (.inl ⟨rfl, tagI false _⟩) allnil) (res := fun r => .agg [slPoint true r.Points]) ?_
    refine x_seq ?_
    refine x_reg [(0, .new 2)] [0, 2] [2] [slI false list, .ref 2 0] [some (.box [nilA])] [] (by kernel_rfl) trivial ?_
    refine xe_then ?_
    refine x_seq ?_
    refine x_reg [(1, .new 3)] [0, 2, 3] [2, 3] [slI false list, .ref 2 0, .ref 3 0] [some (.box [nilA]), some (.box [nilA])] [] (by kernel_rfl) trivial ?_
    refine xe_then ?_
    refine x_seq ?_
    refine x_seq ?_
    refine x_reg [] [0, 2, 3, 4] [2, 3] [slI false list, .ref 2 0, .ref 3 0, I 0] [some (.box [nilA]), some (.box [nilA])] [] (by kernel_rfl) trivial ?_
    refine xe_then ?_
    refine x_block ?_
    refine x_nilC 3 0 730 3 (fun _ => []) rfl (by kernel_rfl) ?_
    refine x_weak [] (T := [(0, slI false list), (2, .ref 2 0), (3, .ref 3 0), (4, I 0)]) (O := [(2, .box [nilA]), (3, .box [.arr 730]), (730, .arr 3 (([] : List Point).length) (fPoint ([] : List Point)))]) rfl (⟨.inl rfl, .inl rfl, .inl rfl, .inl rfl, trivial⟩) (⟨.inl rfl, .inl rfl, .inr ⟨rfl, (by first | rfl | (simp; done) | (simp; omega) | omega), fun i hi => absurd hi (Nat.not_lt_zero _)⟩, trivial⟩) ?_
    refine x_loop (X := Int × (List Point)) (fun x => mkS [(0, slI false list), (2, .ref 2 0), (3, .ref 3 0), (4, I x.1)] [(2, .box [nilA]), (3, .box [.arr 730]), (730, .arr 3 x.2.length (fPoint x.2))]) (fun x => (0 ≤ x.1 ∧ x.1 ≤ (list.length : Int) + 1) ∧ ((x.2.length : Int) ≤ x.1) ∧ True) (fun x => ((list.length : Int) + 2 - x.1).toNat) (0, ([] : List Point)) rfl (show (0 ≤ (0 : Int) ∧ (0 : Int) ≤ (list.length : Int) + 1) ∧ ((([] : List Point).length : Int) ≤ (0 : Int)) ∧ True from ⟨(by omega), (by simp), trivial⟩) (fun x hI => ?_)
    obtain ⟨i, pts⟩ := x
    obtain ⟨hi0, hl0, _⟩ : (0 ≤ i ∧ i ≤ (list.length : Int) + 1) ∧ ((pts.length : Int) ≤ i) ∧ True := hI
    show XW _ _ _ _ (mkS [(0, slI false list), (2, .ref 2 0), (3, .ref 3 0), (4, I i)] [(2, .box [nilA]), (3, .box [.arr 730]), (730, .arr 3 pts.length (fPoint pts))]) _ _
    refine x_seq ?_
    refine x_seq ?_
    by_cases h1 : (i + 1) < (list.length : Int)
    ·refine x_reg [(4, .dec true)] [0, 2, 3, 4, 12] [2, 3, 730] [slI false list, .ref 2 0, .ref 3 0, I i, Bv true] [some (.box [nilA]), some (.box [.arr 730]), some (.arr 3 pts.length (fPoint pts))] [inR .i64 (i + 1), (i + 1) < (list.length : Int)] (by kernel_rfl) ⟨(inR_i64 (by omega) (by omega)), h1, trivial⟩ ?_
     refine xe_then ?_
     refine x_true rfl ?_
     refine x_skip ?_
     refine xe_then ?_
     refine x_seq ?_
     refine x_block ?_
     refine x_seq ?_
     refine x_reg [(4, .call [(true, I 4095), (true, I (at_ list i.toNat))] true (I (min 4095 (at_ list i.toNat)))), (5, .call [(true, I 0), (true, I (min 4095 (at_ list i.toNat)))] true (I (max 0 (min 4095 (at_ list i.toNat)))))] [0, 2, 3, 4, 5] [2, 3, 730] [slI false list, .ref 2 0, .ref 3 0, I i, I (max 0 (min 4095 (at_ list i.toNat)))] [some (.box [nilA]), some (.box [.arr 730]), some (.arr 3 pts.length (fPoint pts))] [(0 : Int) ≤ i ∧ i < (list.length : Int), Con Tryz.prog 88 [I 4095, I (at_ list i.toNat)] true (I (min 4095 (at_ list i.toNat))) ∧ ((I 4095 : AV) = I 4095) ∧ ((I (at_ list i.toNat) : AV) = I (at_ list i.toNat)) ∧ True, Con Tryz.prog 87 [I 0, I (min 4095 (at_ list i.toNat))] true (I (max 0 (min 4095 (at_ list i.toNat)))) ∧ ((I 0 : AV) = I 0) ∧ ((I (min 4095 (at_ list i.toNat)) : AV) = I (min 4095 (at_ list i.toNat))) ∧ True] (by kernel_rfl) ⟨⟨(by omega), (by omega)⟩, ⟨(l00Min_ok 4095 (at_ list i.toNat)), rfl, rfl, trivial⟩, ⟨(l00Max_ok 0 (min 4095 (at_ list i.toNat))), rfl, rfl, trivial⟩, trivial⟩ ?_
     refine xe_then ?_
     refine x_seq ?_
     refine x_reg [(5, .call [(true, I 4095), (true, I (at_ list ((i + 1).toNat)))] true (I (min 4095 (at_ list ((i + 1).toNat))))), (6, .call [(true, I 0), (true, I (min 4095 (at_ list ((i + 1).toNat))))] true (I (max 0 (min 4095 (at_ list ((i + 1).toNat))))))] [0, 2, 3, 4, 5, 6] [2, 3, 730] [slI false list, .ref 2 0, .ref 3 0, I i, I (max 0 (min 4095 (at_ list i.toNat))), I (max 0 (min 4095 (at_ list ((i + 1).toNat))))] [some (.box [nilA]), some (.box [.arr 730]), some (.arr 3 pts.length (fPoint pts))] [inR .i64 (i + 1), (0 : Int) ≤ (i + 1) ∧ (i + 1) < (list.length : Int), Con Tryz.prog 88 [I 4095, I (at_ list ((i + 1).toNat))] true (I (min 4095 (at_ list ((i + 1).toNat)))) ∧ ((I 4095 : AV) = I 4095) ∧ ((I (at_ list ((i + 1).toNat)) : AV) = I (at_ list ((i + 1).toNat))) ∧ True, Con Tryz.prog 87 [I 0, I (min 4095 (at_ list ((i + 1).toNat)))] true (I (max 0 (min 4095 (at_ list ((i + 1).toNat))))) ∧ ((I 0 : AV) = I 0) ∧ ((I (min 4095 (at_ list ((i + 1).toNat))) : AV) = I (min 4095 (at_ list ((i + 1).toNat)))) ∧ True] (by kernel_rfl) ⟨(inR_i64 (by omega) (by omega)), ⟨(by omega), (by omega)⟩, ⟨(l00Min_ok 4095 (at_ list ((i + 1).toNat))), rfl, rfl, trivial⟩, ⟨(l00Max_ok 0 (min 4095 (at_ list ((i + 1).toNat)))), rfl, rfl, trivial⟩, trivial⟩ ?_
     refine xe_then ?_
     refine x_reg [(6, .new 34), (7, .new 35)] [0, 2, 3, 4] [2, 3, 35] [slI false list, .ref 2 0, .ref 3 0, I i] [some (.box [nilA]), some (.box [.arr 35]), some (.arr 3 (pts.length + 1) (catF pts.length (fPoint pts) (litF [I (max 0 (min 4095 (at_ list i.toNat))), I (max 0 (min 4095 (at_ list ((i + 1).toNat)))), I i] 3)))] [(pts.length + 1) * 24 ≤ 140737488355328] (by kernel_rfl) ⟨(by omega), trivial⟩ ?_
     refine xe_block 1 ?_
     refine xe_then ?_
     refine x_reg [] [0, 2, 3, 4] [2, 3, 35] [slI false list, .ref 2 0, .ref 3 0, I (i + 2)] [some (.box [nilA]), some (.box [.arr 35]), some (.arr 3 (pts.length + 1) (catF pts.length (fPoint pts) (litF [I (max 0 (min 4095 (at_ list i.toNat))), I (max 0 (min 4095 (at_ list ((i + 1).toNat)))), I i] 3)))] [inR .i64 (i + 2)] (by kernel_rfl) ⟨(inR_i64 (by omega) (by omega)), trivial⟩ ?_
     refine xe_weak [(730, 35)] (T := [(0, slI false list), (2, .ref 2 0), (3, .ref 3 0), (4, I (i + 2))]) (O := [(2, .box [nilA]), (3, .box [.arr 730]), (730, .arr 3 ((pts ++ [(Point.mk (max 0 (min 4095 (at_ list i.toNat))) (max 0 (min 4095 (at_ list ((i + 1).toNat)))) i)]).length) (fPoint (pts ++ [(Point.mk (max 0 (min 4095 (at_ list i.toNat))) (max 0 (min 4095 (at_ list ((i + 1).toNat)))) i)])))]) rfl (⟨.inl rfl, .inl rfl, .inl rfl, .inl rfl, trivial⟩) (⟨.inl rfl, .inl rfl, .inr ⟨rfl, (by first | rfl | (simp; done) | (simp; omega) | omega), fun i hi => .inl (cat_snoc (enc := cPoint) (xs := pts) rfl i hi)⟩, trivial⟩) (xe_again ((i + 2), (pts ++ [(Point.mk (max 0 (min 4095 (at_ list i.toNat))) (max 0 (min 4095 (at_ list ((i + 1).toNat)))) i)])) rfl (show (0 ≤ (i + 2) ∧ (i + 2) ≤ (list.length : Int) + 1) ∧ (((pts ++ [(Point.mk (max 0 (min 4095 (at_ list i.toNat))) (max 0 (min 4095 (at_ list ((i + 1).toNat)))) i)]).length : Int) ≤ (i + 2)) ∧ True from ⟨(by omega), (by simp; omega), trivial⟩) (by show (((list.length : Int) + 2 - (i + 2)).toNat : Nat) < ((list.length : Int) + 2 - i).toNat; omega))
    ·refine x_reg [(4, .dec false)] [0, 2, 3, 4, 12] [2, 3, 730] [slI false list, .ref 2 0, .ref 3 0, I i, Bv false] [some (.box [nilA]), some (.box [.arr 730]), some (.arr 3 pts.length (fPoint pts))] [inR .i64 (i + 1), ¬ ((i + 1) < (list.length : Int))] (by kernel_rfl) ⟨(inR_i64 (by omega) (by omega)), h1, trivial⟩ ?_
     refine xe_then ?_
     refine x_false rfl ?_
     refine x_exit ?_
     refine xe_exit_then ?_
     refine xe_loop_exit ?_
     refine xe_exit_same ?_
     refine xe_then ?_
     refine x_seq ?_
     refine x_reg [] [2] [2, 730] [.ref 2 0] [some (.box [.arr 730]), some (.arr 3 pts.length (fPoint pts))] [] (by kernel_rfl) trivial ?_
     refine xe_then ?_
     refine x_ret ?_
     refine xe_end (Stroke.mk pts) trivial (trivial) (.agg [.arr 730]) (by kernel_rfl) (.inr ⟨⟨(fun _ => rfl), rfl, rfl, fun i _ => .inl rfl⟩, rfl⟩) (fun _ => rfl) (fun _ => (by simp [tagged, taggedL, tagPoint]))
  obtain ⟨v, _, hc⟩ := hh
  exact ⟨v, hc⟩


theorem last_mem {α : Type} [Inhabited α] {xs : List α} (h : 1 ≤ xs.length) : at_ xs (xs.length - 1) ∈ xs := at_mem (by omega)
theorem first_mem {α : Type} [Inhabited α] {xs : List α} (h : 1 ≤ xs.length) : at_ xs 0 ∈ xs := at_mem (by omega)
theorem all_snoc {α : Type} {P : α → Prop} {xs : List α} {x : α} (h : ∀ y ∈ xs, P y) (hx : P x) : ∀ y ∈ xs ++ [x], P y := by
  intro y hy
  rcases List.mem_append.1 hy with h1 | h1
  · exact h y h1
  · simp at h1; subst h1; exact hx

-- spec.l02DrawStroke
theorem l02DrawStroke_ok (s : l00Src) (time : Int) (x : Int) (y : Int) (hs : okSrc s) (ha : s.atx ≤ 3999999999999999600) (ht : 0 ≤ time ∧ time ≤ 100000 ∧ 0 ≤ x ∧ x ≤ 100000 ∧ 0 ≤ y ∧ y ≤ 100000) : ∃ (s' : l00Src) (pts : List Point), (okSrc s') ∧ (s'.code = s.code) ∧ (s.atx + 0 ≤ s'.atx ∧ s'.atx ≤ s.atx + 200) ∧ (1 ≤ pts.length ∧ pts.length ≤ 10) ∧ (∀ p ∈ pts, time ≤ p.T ∧ p.T ≤ time + 210) ∧ CallOK Tryz.prog 90 [.ref 7001 0, I time, I x, I y] (lookO [(7001, bxl00Src s)]) false (.agg [.arr 8001]) (lookO [(7001, bxl00Src s'), (8001, .arr 3 pts.length (fPoint pts))]) := by
  have hh : ∃ r : l00Src × (List Point), ((okSrc r.1) ∧ (r.1.code = s.code) ∧ (s.atx + 0 ≤ r.1.atx ∧ r.1.atx ≤ s.atx + 200) ∧ (1 ≤ r.2.length ∧ r.2.length ≤ 10) ∧ (∀ p ∈ r.2, time ≤ p.T ∧ p.T ≤ time + 210) ∧ (True)) ∧ CallOK Tryz.prog 90 [.ref 7001 0, I time, I x, I y] (lookO [(7001, bxl00Src s)]) false (.agg [.arr 8001]) (lookO [(7001, bxl00Src r.1), (8001, .arr 3 r.2.length (fPoint r.2))]) := by
    refine fn_okX (Φ := fun r : l00Src × (List Point) => (okSrc r.1) ∧ (r.1.code = s.code) ∧ (s.atx + 0 ≤ r.1.atx ∧ r.1.atx ≤ s.atx + 200) ∧ (1 ≤ r.2.length ∧ r.2.length ≤ 10) ∧ (∀ p ∈ r.2, time ≤ p.T ∧ p.T ≤ time + 210) ∧ (True)) [(7001, bxl00Src s)] (fun r => [(7001, bxl00Src r.1), (8001, .arr 3 r.2.length (fPoint r.2))]) (fn := Tryz.f90) (nt := 68) Tryz.func90 rfl rfl (args := [.ref 7001 0, I time, I x, I y]) rfl (allcons (.inr trivial) (allcons (.inl ⟨rfl, trivial⟩) (allcons (.inl ⟨rfl, trivial⟩) (allcons (.inl ⟨rfl, trivial⟩) allnil)))) (res := fun r => .agg [.arr 8001]) ?_
    refine x_seq ?_
    refine x_reg [(0, .new 8)] [0, 1, 2, 3, 8] [8, 7001] [.ref 7001 0, I time, I x, I y, .ref 8 0] [some (.box [nilA]), some (bxl00Src s)] [] (by kernel_rfl) trivial ?_
    refine xe_then ?_
    refine x_seq ?_
    refine x_reg [(1, .new 9)] [0, 1, 2, 3, 8, 9] [8, 9, 7001] [.ref 7001 0, I time, I x, I y, .ref 8 0, .ref 9 0] [some (.box [nilA]), some (.box [nilA]), some (bxl00Src s)] [] (by kernel_rfl) trivial ?_
    refine xe_then ?_
    refine x_seq ?_
    obtain ⟨v_1, s'_1, hx1_0, hx1_1, hx1_2, hx1_3, hc1⟩ := pick_ok s 60 (by first | assumption | (simp only [okSrc] at *; simp_all; done)) (by omega)
    refine x_reg [(1, .lend [(7001, bxl00Src s, bxl00Src s'_1)] [] [(true, .ref 7001 0), (true, I 60)] true (I v_1))] [0, 1, 2, 3, 8, 9, 10] [8, 9, 7001] [.ref 7001 0, I time, I x, I y, .ref 8 0, .ref 9 0, I (v_1 - 20)] [some (.box [nilA]), some (.box [nilA]), some (bxl00Src s'_1)] [CallOK Tryz.prog 39 [.ref 7001 0, I 60] (lookO [(7001, bxl00Src s)]) true (I v_1) (lookO [(7001, bxl00Src s'_1)]) ∧ ((.ref 7001 0 : AV) = .ref 7001 0) ∧ ((I 60 : AV) = I 60) ∧ (((bxl00Src s : Ob) = bxl00Src s ∨ obLe noOb true (bxl00Src s) (bxl00Src s)) ∧ taggedO false (bxl00Src s)) ∧ True, inR .i64 (v_1 - 20)] (by kernel_rfl) ⟨⟨hc1, rfl, rfl, ⟨.inl rfl, (by simp [taggedO, taggedL, tagged, tagU8])⟩, trivial⟩, (inR_i64 (by omega) (by omega)), trivial⟩ ?_
    refine xe_then ?_
    refine x_seq ?_
    obtain ⟨v_2, s'_2, hx2_0, hx2_1, hx2_2, hx2_3, hc2⟩ := pick_ok s'_1 60 (by first | assumption | (simp only [okSrc] at *; simp_all; done)) (by omega)
    refine x_reg [(1, .lend [(7001, bxl00Src s'_1, bxl00Src s'_2)] [] [(true, .ref 7001 0), (true, I 60)] true (I v_2))] [0, 1, 2, 3, 8, 9, 10, 11] [8, 9, 7001] [.ref 7001 0, I time, I x, I y, .ref 8 0, .ref 9 0, I (v_1 - 20), I (v_2 - 30)] [some (.box [nilA]), some (.box [nilA]), some (bxl00Src s'_2)] [CallOK Tryz.prog 39 [.ref 7001 0, I 60] (lookO [(7001, bxl00Src s'_1)]) true (I v_2) (lookO [(7001, bxl00Src s'_2)]) ∧ ((.ref 7001 0 : AV) = .ref 7001 0) ∧ ((I 60 : AV) = I 60) ∧ (((bxl00Src s'_1 : Ob) = bxl00Src s'_1 ∨ obLe noOb true (bxl00Src s'_1) (bxl00Src s'_1)) ∧ taggedO false (bxl00Src s'_1)) ∧ True, inR .i64 (v_2 - 30)] (by kernel_rfl) ⟨⟨hc2, rfl, rfl, ⟨.inl rfl, (by simp [taggedO, taggedL, tagged, tagU8])⟩, trivial⟩, (inR_i64 (by omega) (by omega)), trivial⟩ ?_
    refine xe_then ?_
    refine x_seq ?_
    refine x_seq ?_
    obtain ⟨v_3, s'_3, hx3_0, hx3_1, hx3_2, hx3_3, hc3⟩ := pick_ok s'_2 10 (by first | assumption | (simp only [okSrc] at *; simp_all; done)) (by omega)
    refine x_reg [(1, .lend [(7001, bxl00Src s'_2, bxl00Src s'_3)] [] [(true, .ref 7001 0), (true, I 10)] true (I v_3))] [0, 1, 2, 3, 8, 9, 10, 11, 12] [8, 9, 7001] [.ref 7001 0, I time, I x, I y, .ref 8 0, .ref 9 0, I (v_1 - 20), I (v_2 - 30), I (1 + v_3)] [some (.box [nilA]), some (.box [nilA]), some (bxl00Src s'_3)] [CallOK Tryz.prog 39 [.ref 7001 0, I 10] (lookO [(7001, bxl00Src s'_2)]) true (I v_3) (lookO [(7001, bxl00Src s'_3)]) ∧ ((.ref 7001 0 : AV) = .ref 7001 0) ∧ ((I 10 : AV) = I 10) ∧ (((bxl00Src s'_2 : Ob) = bxl00Src s'_2 ∨ obLe noOb true (bxl00Src s'_2) (bxl00Src s'_2)) ∧ taggedO false (bxl00Src s'_2)) ∧ True, inR .i64 (1 + v_3)] (by kernel_rfl) ⟨⟨hc3, rfl, rfl, ⟨.inl rfl, (by simp [taggedO, taggedL, tagged, tagU8])⟩, trivial⟩, (inR_i64 (by omega) (by omega)), trivial⟩ ?_
    refine xe_then ?_
    refine x_block ?_
    refine x_nilC 9 0 790 3 (fun _ => []) rfl (by kernel_rfl) ?_
    refine x_weak [] (T := [(0, .ref 7001 0), (1, I time), (2, I x), (3, I y), (8, .ref 8 0), (9, .ref 9 0), (10, I (v_1 - 20)), (11, I (v_2 - 30)), (12, I (1 + v_3))]) (O := [(8, .box [nilA]), (9, .box [.arr 790]), (790, .arr 3 (([] : List Point).length) (fPoint ([] : List Point))), (7001, bxl00Src s'_3)]) rfl (⟨.inl rfl, .inl rfl, .inl rfl, .inl rfl, .inl rfl, .inl rfl, .inl rfl, .inl rfl, .inl rfl, trivial⟩) (⟨.inl rfl, .inl rfl, .inr ⟨rfl, (by first | rfl | (simp; done) | (simp; omega) | omega), fun i hi => absurd hi (Nat.not_lt_zero _)⟩, .inl rfl, trivial⟩) ?_
    refine x_loop (X := Int × Int × Int × Int × Int × Int × (List Point) × l00Src) (fun x => mkS [(0, .ref 7001 0), (1, I x.1), (2, I x.2.1), (3, I x.2.2.1), (8, .ref 8 0), (9, .ref 9 0), (10, I x.2.2.2.1), (11, I x.2.2.2.2.1), (12, I x.2.2.2.2.2.1)] [(8, .box [nilA]), (9, .box [.arr 790]), (790, .arr 3 x.2.2.2.2.2.2.1.length (fPoint x.2.2.2.2.2.2.1)), (7001, bxl00Src x.2.2.2.2.2.2.2)]) (fun x => (okSrc x.2.2.2.2.2.2.2 ∧ x.2.2.2.2.2.2.2.code = s.code ∧ s.atx ≤ x.2.2.2.2.2.2.2.atx ∧ x.2.2.2.2.2.2.2.atx ≤ s.atx + 6 + 12 * (10 - x.2.2.2.2.2.1)) ∧ (0 ≤ x.2.2.2.2.2.1 ∧ x.2.2.2.2.2.1 ≤ 10) ∧ ((x.2.2.2.2.2.2.1.length : Int) + x.2.2.2.2.2.1 ≤ 10 ∧ 1 ≤ (x.2.2.2.2.2.2.1.length : Int) + x.2.2.2.2.2.1) ∧ (time ≤ x.1 ∧ x.1 ≤ time + 21 * (10 - x.2.2.2.2.2.1)) ∧ (∀ p ∈ x.2.2.2.2.2.2.1, time ≤ p.T ∧ p.T ≤ time + 210) ∧ (0 ≤ x.2.1 ∧ x.2.1 ≤ 100000 ∧ 0 ≤ x.2.2.1 ∧ x.2.2.1 ≤ 100000) ∧ (-40 ≤ x.2.2.2.1 ∧ x.2.2.2.1 ≤ 60 ∧ -40 ≤ x.2.2.2.2.1 ∧ x.2.2.2.2.1 ≤ 60) ∧ True) (fun x => x.2.2.2.2.2.1.toNat) (time, x, y, (v_1 - 20), (v_2 - 30), (1 + v_3), ([] : List Point), s'_3) rfl (show (okSrc s'_3 ∧ s'_3.code = s.code ∧ s.atx ≤ s'_3.atx ∧ s'_3.atx ≤ s.atx + 6 + 12 * (10 - (1 + v_3))) ∧ (0 ≤ (1 + v_3) ∧ (1 + v_3) ≤ 10) ∧ ((([] : List Point).length : Int) + (1 + v_3) ≤ 10 ∧ 1 ≤ (([] : List Point).length : Int) + (1 + v_3)) ∧ (time ≤ time ∧ time ≤ time + 21 * (10 - (1 + v_3))) ∧ (∀ p ∈ ([] : List Point), time ≤ p.T ∧ p.T ≤ time + 210) ∧ (0 ≤ x ∧ x ≤ 100000 ∧ 0 ≤ y ∧ y ≤ 100000) ∧ (-40 ≤ (v_1 - 20) ∧ (v_1 - 20) ≤ 60 ∧ -40 ≤ (v_2 - 30) ∧ (v_2 - 30) ≤ 60) ∧ True from ⟨(by exact ⟨by assumption, by first | assumption | rfl | (simp only [*]; done), by omega, by omega⟩), (by omega), (by simp; omega), (by omega), (by (intro z hz; simp at hz)), (by omega), (by omega), trivial⟩) (fun x hI => ?_)
    obtain ⟨time', x', y', dx, dy, k, pts, src⟩ := x
    obtain ⟨hs0, hk0, hl0, ht0, hp0, hx0, hd0, _⟩ : (okSrc src ∧ src.code = s.code ∧ s.atx ≤ src.atx ∧ src.atx ≤ s.atx + 6 + 12 * (10 - k)) ∧ (0 ≤ k ∧ k ≤ 10) ∧ ((pts.length : Int) + k ≤ 10 ∧ 1 ≤ (pts.length : Int) + k) ∧ (time ≤ time' ∧ time' ≤ time + 21 * (10 - k)) ∧ (∀ p ∈ pts, time ≤ p.T ∧ p.T ≤ time + 210) ∧ (0 ≤ x' ∧ x' ≤ 100000 ∧ 0 ≤ y' ∧ y' ≤ 100000) ∧ (-40 ≤ dx ∧ dx ≤ 60 ∧ -40 ≤ dy ∧ dy ≤ 60) ∧ True := hI
    show XW _ _ _ _ (mkS [(0, .ref 7001 0), (1, I time'), (2, I x'), (3, I y'), (8, .ref 8 0), (9, .ref 9 0), (10, I dx), (11, I dy), (12, I k)] [(8, .box [nilA]), (9, .box [.arr 790]), (790, .arr 3 pts.length (fPoint pts)), (7001, bxl00Src src)]) _ _
    refine x_seq ?_
    refine x_seq ?_
    by_cases h1 : 0 < k
    ·refine x_reg [(1, .dec true)] [0, 1, 2, 3, 8, 9, 10, 11, 12, 24] [8, 9, 790, 7001] [.ref 7001 0, I time', I x', I y', .ref 8 0, .ref 9 0, I dx, I dy, I k, Bv true] [some (.box [nilA]), some (.box [.arr 790]), some (.arr 3 pts.length (fPoint pts)), some (bxl00Src src)] [0 < k] (by kernel_rfl) ⟨h1, trivial⟩ ?_
     refine xe_then ?_
     refine x_true rfl ?_
     refine x_skip ?_
     refine xe_then ?_
     refine x_seq ?_
     refine x_block ?_
     refine x_seq ?_
     refine x_reg [(6, .new 33), (7, .new 34)] [0, 1, 2, 3, 8, 9, 10, 11, 12] [8, 9, 34, 7001] [.ref 7001 0, I time', I x', I y', .ref 8 0, .ref 9 0, I dx, I dy, I k] [some (.box [nilA]), some (.box [.arr 34]), some (.arr 3 (pts.length + 1) (catF pts.length (fPoint pts) (litF [I x', I y', I time'] 3))), some (bxl00Src src)] [(pts.length + 1) * 24 ≤ 140737488355328] (by kernel_rfl) ⟨(by omega), trivial⟩ ?_
     refine xe_then ?_
     refine x_seq ?_
     obtain ⟨v_4, s'_4, hx4_0, hx4_1, hx4_2, hx4_3, hc4⟩ := pick_ok src 20 (by first | assumption | (simp only [okSrc] at *; simp_all; done)) (by omega)
     refine x_reg [(2, .lend [(7001, bxl00Src src, bxl00Src s'_4)] [] [(true, .ref 7001 0), (true, I 20)] true (I v_4))] [0, 1, 2, 3, 8, 9, 10, 11, 12] [8, 9, 34, 7001] [.ref 7001 0, I (time' + (1 + v_4)), I x', I y', .ref 8 0, .ref 9 0, I dx, I dy, I k] [some (.box [nilA]), some (.box [.arr 34]), some (.arr 3 (pts.length + 1) (catF pts.length (fPoint pts) (litF [I x', I y', I time'] 3))), some (bxl00Src s'_4)] [CallOK Tryz.prog 39 [.ref 7001 0, I 20] (lookO [(7001, bxl00Src src)]) true (I v_4) (lookO [(7001, bxl00Src s'_4)]) ∧ ((.ref 7001 0 : AV) = .ref 7001 0) ∧ ((I 20 : AV) = I 20) ∧ (((bxl00Src src : Ob) = bxl00Src src ∨ obLe noOb true (bxl00Src src) (bxl00Src src)) ∧ taggedO false (bxl00Src src)) ∧ True, inR .i64 (1 + v_4), inR .i64 (time' + (1 + v_4))] (by kernel_rfl) ⟨⟨hc4, rfl, rfl, ⟨.inl rfl, (by simp [taggedO, taggedL, tagged, tagU8])⟩, trivial⟩, (inR_i64 (by omega) (by omega)), (inR_i64 (by omega) (by omega)), trivial⟩ ?_
     refine xe_then ?_
     refine x_seq ?_
     obtain ⟨v_5, s'_5, hx5_0, hx5_1, hx5_2, hx5_3, hc5⟩ := pick_ok s'_4 9 (by first | assumption | (simp only [okSrc] at *; simp_all; done)) (by omega)
     refine x_reg [(4, .lend [(7001, bxl00Src s'_4, bxl00Src s'_5)] [] [(true, .ref 7001 0), (true, I 9)] true (I v_5)), (7, .call [(true, I 4095), (true, I (((x' + dx) + v_5) - 4))] true (I (min 4095 (((x' + dx) + v_5) - 4)))), (8, .call [(true, I 0), (true, I (min 4095 (((x' + dx) + v_5) - 4)))] true (I (max 0 (min 4095 (((x' + dx) + v_5) - 4)))))] [0, 1, 2, 3, 8, 9, 10, 11, 12] [8, 9, 34, 7001] [.ref 7001 0, I (time' + (1 + v_4)), I (max 0 (min 4095 (((x' + dx) + v_5) - 4))), I y', .ref 8 0, .ref 9 0, I dx, I dy, I k] [some (.box [nilA]), some (.box [.arr 34]), some (.arr 3 (pts.length + 1) (catF pts.length (fPoint pts) (litF [I x', I y', I time'] 3))), some (bxl00Src s'_5)] [inR .i64 (x' + dx), CallOK Tryz.prog 39 [.ref 7001 0, I 9] (lookO [(7001, bxl00Src s'_4)]) true (I v_5) (lookO [(7001, bxl00Src s'_5)]) ∧ ((.ref 7001 0 : AV) = .ref 7001 0) ∧ ((I 9 : AV) = I 9) ∧ (((bxl00Src s'_4 : Ob) = bxl00Src s'_4 ∨ obLe noOb true (bxl00Src s'_4) (bxl00Src s'_4)) ∧ taggedO false (bxl00Src s'_4)) ∧ True, inR .i64 ((x' + dx) + v_5), inR .i64 (((x' + dx) + v_5) - 4), Con Tryz.prog 88 [I 4095, I (((x' + dx) + v_5) - 4)] true (I (min 4095 (((x' + dx) + v_5) - 4))) ∧ ((I 4095 : AV) = I 4095) ∧ ((I (((x' + dx) + v_5) - 4) : AV) = I (((x' + dx) + v_5) - 4)) ∧ True, Con Tryz.prog 87 [I 0, I (min 4095 (((x' + dx) + v_5) - 4))] true (I (max 0 (min 4095 (((x' + dx) + v_5) - 4)))) ∧ ((I 0 : AV) = I 0) ∧ ((I (min 4095 (((x' + dx) + v_5) - 4)) : AV) = I (min 4095 (((x' + dx) + v_5) - 4))) ∧ True] (by kernel_rfl) ⟨(inR_i64 (by omega) (by omega)), ⟨hc5, rfl, rfl, ⟨.inl rfl, (by simp [taggedO, taggedL, tagged, tagU8])⟩, trivial⟩, (inR_i64 (by omega) (by omega)), (inR_i64 (by omega) (by omega)), ⟨(l00Min_ok 4095 (((x' + dx) + v_5) - 4)), rfl, rfl, trivial⟩, ⟨(l00Max_ok 0 (min 4095 (((x' + dx) + v_5) - 4))), rfl, rfl, trivial⟩, trivial⟩ ?_
     refine xe_then ?_
     refine x_seq ?_
     obtain ⟨v_6, s'_6, hx6_0, hx6_1, hx6_2, hx6_3, hc6⟩ := pick_ok s'_5 9 (by first | assumption | (simp only [okSrc] at *; simp_all; done)) (by omega)
     refine x_reg [(4, .lend [(7001, bxl00Src s'_5, bxl00Src s'_6)] [] [(true, .ref 7001 0), (true, I 9)] true (I v_6)), (7, .call [(true, I 4095), (true, I (((y' + dy) + v_6) - 4))] true (I (min 4095 (((y' + dy) + v_6) - 4)))), (8, .call [(true, I 0), (true, I (min 4095 (((y' + dy) + v_6) - 4)))] true (I (max 0 (min 4095 (((y' + dy) + v_6) - 4)))))] [0, 1, 2, 3, 8, 9, 10, 11, 12] [8, 9, 34, 7001] [.ref 7001 0, I (time' + (1 + v_4)), I (max 0 (min 4095 (((x' + dx) + v_5) - 4))), I (max 0 (min 4095 (((y' + dy) + v_6) - 4))), .ref 8 0, .ref 9 0, I dx, I dy, I k] [some (.box [nilA]), some (.box [.arr 34]), some (.arr 3 (pts.length + 1) (catF pts.length (fPoint pts) (litF [I x', I y', I time'] 3))), some (bxl00Src s'_6)] [inR .i64 (y' + dy), CallOK Tryz.prog 39 [.ref 7001 0, I 9] (lookO [(7001, bxl00Src s'_5)]) true (I v_6) (lookO [(7001, bxl00Src s'_6)]) ∧ ((.ref 7001 0 : AV) = .ref 7001 0) ∧ ((I 9 : AV) = I 9) ∧ (((bxl00Src s'_5 : Ob) = bxl00Src s'_5 ∨ obLe noOb true (bxl00Src s'_5) (bxl00Src s'_5)) ∧ taggedO false (bxl00Src s'_5)) ∧ True, inR .i64 ((y' + dy) + v_6), inR .i64 (((y' + dy) + v_6) - 4), Con Tryz.prog 88 [I 4095, I (((y' + dy) + v_6) - 4)] true (I (min 4095 (((y' + dy) + v_6) - 4))) ∧ ((I 4095 : AV) = I 4095) ∧ ((I (((y' + dy) + v_6) - 4) : AV) = I (((y' + dy) + v_6) - 4)) ∧ True, Con Tryz.prog 87 [I 0, I (min 4095 (((y' + dy) + v_6) - 4))] true (I (max 0 (min 4095 (((y' + dy) + v_6) - 4)))) ∧ ((I 0 : AV) = I 0) ∧ ((I (min 4095 (((y' + dy) + v_6) - 4)) : AV) = I (min 4095 (((y' + dy) + v_6) - 4))) ∧ True] (by kernel_rfl) ⟨(inR_i64 (by omega) (by omega)), ⟨hc6, rfl, rfl, ⟨.inl rfl, (by simp [taggedO, taggedL, tagged, tagU8])⟩, trivial⟩, (inR_i64 (by omega) (by omega)), (inR_i64 (by omega) (by omega)), ⟨(l00Min_ok 4095 (((y' + dy) + v_6) - 4)), rfl, rfl, trivial⟩, ⟨(l00Max_ok 0 (min 4095 (((y' + dy) + v_6) - 4))), rfl, rfl, trivial⟩, trivial⟩ ?_
     refine xe_then ?_
     refine x_seq ?_
     obtain ⟨v_7, s'_7, hx7_0, hx7_1, hx7_2, hc7⟩ := one_ok s'_6 3 (by first | assumption | (simp only [okSrc] at *; simp_all; done)) (by omega)
     rcases Bool.eq_false_or_eq_true v_7 with h2 | h2
     ·subst h2
      refine x_reg [(1, .lend [(7001, bxl00Src s'_6, bxl00Src s'_7)] [] [(true, .ref 7001 0), (true, I 3)] true (Bv true))] [0, 1, 2, 3, 8, 9, 10, 11, 12, 60] [8, 9, 34, 7001] [.ref 7001 0, I (time' + (1 + v_4)), I (max 0 (min 4095 (((x' + dx) + v_5) - 4))), I (max 0 (min 4095 (((y' + dy) + v_6) - 4))), .ref 8 0, .ref 9 0, I dx, I dy, I k, Bv true] [some (.box [nilA]), some (.box [.arr 34]), some (.arr 3 (pts.length + 1) (catF pts.length (fPoint pts) (litF [I x', I y', I time'] 3))), some (bxl00Src s'_7)] [CallOK Tryz.prog 41 [.ref 7001 0, I 3] (lookO [(7001, bxl00Src s'_6)]) true (Bv true) (lookO [(7001, bxl00Src s'_7)]) ∧ ((.ref 7001 0 : AV) = .ref 7001 0) ∧ ((I 3 : AV) = I 3) ∧ (((bxl00Src s'_6 : Ob) = bxl00Src s'_6 ∨ obLe noOb true (bxl00Src s'_6) (bxl00Src s'_6)) ∧ taggedO false (bxl00Src s'_6)) ∧ True] (by kernel_rfl) ⟨⟨hc7, rfl, rfl, ⟨.inl rfl, (by simp [taggedO, taggedL, tagged, tagU8])⟩, trivial⟩, trivial⟩ ?_
      refine xe_then ?_
      refine x_true rfl ?_
      refine x_seq ?_
      obtain ⟨v_8, s'_8, hx8_0, hx8_1, hx8_2, hx8_3, hc8⟩ := pick_ok s'_7 80 (by first | assumption | (simp only [okSrc] at *; simp_all; done)) (by omega)
      refine x_reg [(1, .lend [(7001, bxl00Src s'_7, bxl00Src s'_8)] [] [(true, .ref 7001 0), (true, I 80)] true (I v_8))] [0, 1, 2, 3, 8, 9, 10, 12] [8, 9, 34, 7001] [.ref 7001 0, I (time' + (1 + v_4)), I (max 0 (min 4095 (((x' + dx) + v_5) - 4))), I (max 0 (min 4095 (((y' + dy) + v_6) - 4))), .ref 8 0, .ref 9 0, I (v_8 - 40), I k] [some (.box [nilA]), some (.box [.arr 34]), some (.arr 3 (pts.length + 1) (catF pts.length (fPoint pts) (litF [I x', I y', I time'] 3))), some (bxl00Src s'_8)] [CallOK Tryz.prog 39 [.ref 7001 0, I 80] (lookO [(7001, bxl00Src s'_7)]) true (I v_8) (lookO [(7001, bxl00Src s'_8)]) ∧ ((.ref 7001 0 : AV) = .ref 7001 0) ∧ ((I 80 : AV) = I 80) ∧ (((bxl00Src s'_7 : Ob) = bxl00Src s'_7 ∨ obLe noOb true (bxl00Src s'_7) (bxl00Src s'_7)) ∧ taggedO false (bxl00Src s'_7)) ∧ True, inR .i64 (v_8 - 40)] (by kernel_rfl) ⟨⟨hc8, rfl, rfl, ⟨.inl rfl, (by simp [taggedO, taggedL, tagged, tagU8])⟩, trivial⟩, (inR_i64 (by omega) (by omega)), trivial⟩ ?_
      refine xe_then ?_
      obtain ⟨v_9, s'_9, hx9_0, hx9_1, hx9_2, hx9_3, hc9⟩ := pick_ok s'_8 80 (by first | assumption | (simp only [okSrc] at *; simp_all; done)) (by omega)
      refine x_reg [(1, .lend [(7001, bxl00Src s'_8, bxl00Src s'_9)] [] [(true, .ref 7001 0), (true, I 80)] true (I v_9))] [0, 1, 2, 3, 8, 9, 10, 11, 12] [8, 9, 34, 7001] [.ref 7001 0, I (time' + (1 + v_4)), I (max 0 (min 4095 (((x' + dx) + v_5) - 4))), I (max 0 (min 4095 (((y' + dy) + v_6) - 4))), .ref 8 0, .ref 9 0, I (v_8 - 40), I (v_9 - 40), I k] [some (.box [nilA]), some (.box [.arr 34]), some (.arr 3 (pts.length + 1) (catF pts.length (fPoint pts) (litF [I x', I y', I time'] 3))), some (bxl00Src s'_9)] [CallOK Tryz.prog 39 [.ref 7001 0, I 80] (lookO [(7001, bxl00Src s'_8)]) true (I v_9) (lookO [(7001, bxl00Src s'_9)]) ∧ ((.ref 7001 0 : AV) = .ref 7001 0) ∧ ((I 80 : AV) = I 80) ∧ (((bxl00Src s'_8 : Ob) = bxl00Src s'_8 ∨ obLe noOb true (bxl00Src s'_8) (bxl00Src s'_8)) ∧ taggedO false (bxl00Src s'_8)) ∧ True, inR .i64 (v_9 - 40)] (by kernel_rfl) ⟨⟨hc9, rfl, rfl, ⟨.inl rfl, (by simp [taggedO, taggedL, tagged, tagU8])⟩, trivial⟩, (inR_i64 (by omega) (by omega)), trivial⟩ ?_
      refine xe_block 1 ?_
      refine xe_then ?_
      refine x_reg [] [0, 1, 2, 3, 8, 9, 10, 11, 12] [8, 9, 34, 7001] [.ref 7001 0, I (time' + (1 + v_4)), I (max 0 (min 4095 (((x' + dx) + v_5) - 4))), I (max 0 (min 4095 (((y' + dy) + v_6) - 4))), .ref 8 0, .ref 9 0, I (v_8 - 40), I (v_9 - 40), I (k - 1)] [some (.box [nilA]), some (.box [.arr 34]), some (.arr 3 (pts.length + 1) (catF pts.length (fPoint pts) (litF [I x', I y', I time'] 3))), some (bxl00Src s'_9)] [inR .i64 (k - 1)] (by kernel_rfl) ⟨(inR_i64 (by omega) (by omega)), trivial⟩ ?_
      refine xe_weak [(790, 34)] (T := [(0, .ref 7001 0), (1, I (time' + (1 + v_4))), (2, I (max 0 (min 4095 (((x' + dx) + v_5) - 4)))), (3, I (max 0 (min 4095 (((y' + dy) + v_6) - 4)))), (8, .ref 8 0), (9, .ref 9 0), (10, I (v_8 - 40)), (11, I (v_9 - 40)), (12, I (k - 1))]) (O := [(8, .box [nilA]), (9, .box [.arr 790]), (790, .arr 3 ((pts ++ [(Point.mk x' y' time')]).length) (fPoint (pts ++ [(Point.mk x' y' time')]))), (7001, bxl00Src s'_9)]) rfl (⟨.inl rfl, .inl rfl, .inl rfl, .inl rfl, .inl rfl, .inl rfl, .inl rfl, .inl rfl, .inl rfl, trivial⟩) (⟨.inl rfl, .inl rfl, .inr ⟨rfl, (by first | rfl | (simp; done) | (simp; omega) | omega), fun i hi => .inl (cat_snoc (enc := cPoint) (xs := pts) rfl i hi)⟩, .inl rfl, trivial⟩) (xe_again ((time' + (1 + v_4)), (max 0 (min 4095 (((x' + dx) + v_5) - 4))), (max 0 (min 4095 (((y' + dy) + v_6) - 4))), (v_8 - 40), (v_9 - 40), (k - 1), (pts ++ [(Point.mk x' y' time')]), s'_9) rfl (show (okSrc s'_9 ∧ s'_9.code = s.code ∧ s.atx ≤ s'_9.atx ∧ s'_9.atx ≤ s.atx + 6 + 12 * (10 - (k - 1))) ∧ (0 ≤ (k - 1) ∧ (k - 1) ≤ 10) ∧ (((pts ++ [(Point.mk x' y' time')]).length : Int) + (k - 1) ≤ 10 ∧ 1 ≤ ((pts ++ [(Point.mk x' y' time')]).length : Int) + (k - 1)) ∧ (time ≤ (time' + (1 + v_4)) ∧ (time' + (1 + v_4)) ≤ time + 21 * (10 - (k - 1))) ∧ (∀ p ∈ (pts ++ [(Point.mk x' y' time')]), time ≤ p.T ∧ p.T ≤ time + 210) ∧ (0 ≤ (max 0 (min 4095 (((x' + dx) + v_5) - 4))) ∧ (max 0 (min 4095 (((x' + dx) + v_5) - 4))) ≤ 100000 ∧ 0 ≤ (max 0 (min 4095 (((y' + dy) + v_6) - 4))) ∧ (max 0 (min 4095 (((y' + dy) + v_6) - 4))) ≤ 100000) ∧ (-40 ≤ (v_8 - 40) ∧ (v_8 - 40) ≤ 60 ∧ -40 ≤ (v_9 - 40) ∧ (v_9 - 40) ≤ 60) ∧ True from ⟨(by exact ⟨by assumption, by first | assumption | rfl | (simp only [*]; done), by omega, by omega⟩), (by omega), (by simp; omega), (by omega), (by exact all_snoc hp0 (by dsimp only; omega)), (by omega), (by omega), trivial⟩) (by show ((k - 1).toNat : Nat) < k.toNat; omega))
     ·subst h2
      refine x_reg [(1, .lend [(7001, bxl00Src s'_6, bxl00Src s'_7)] [] [(true, .ref 7001 0), (true, I 3)] true (Bv false))] [0, 1, 2, 3, 8, 9, 10, 11, 12, 60] [8, 9, 34, 7001] [.ref 7001 0, I (time' + (1 + v_4)), I (max 0 (min 4095 (((x' + dx) + v_5) - 4))), I (max 0 (min 4095 (((y' + dy) + v_6) - 4))), .ref 8 0, .ref 9 0, I dx, I dy, I k, Bv false] [some (.box [nilA]), some (.box [.arr 34]), some (.arr 3 (pts.length + 1) (catF pts.length (fPoint pts) (litF [I x', I y', I time'] 3))), some (bxl00Src s'_7)] [CallOK Tryz.prog 41 [.ref 7001 0, I 3] (lookO [(7001, bxl00Src s'_6)]) true (Bv false) (lookO [(7001, bxl00Src s'_7)]) ∧ ((.ref 7001 0 : AV) = .ref 7001 0) ∧ ((I 3 : AV) = I 3) ∧ (((bxl00Src s'_6 : Ob) = bxl00Src s'_6 ∨ obLe noOb true (bxl00Src s'_6) (bxl00Src s'_6)) ∧ taggedO false (bxl00Src s'_6)) ∧ True] (by kernel_rfl) ⟨⟨hc7, rfl, rfl, ⟨.inl rfl, (by simp [taggedO, taggedL, tagged, tagU8])⟩, trivial⟩, trivial⟩ ?_
      refine xe_then ?_
      refine x_false rfl ?_
      refine x_skip ?_
      refine xe_block 1 ?_
      refine xe_then ?_
      refine x_reg [] [0, 1, 2, 3, 8, 9, 10, 11, 12] [8, 9, 34, 7001] [.ref 7001 0, I (time' + (1 + v_4)), I (max 0 (min 4095 (((x' + dx) + v_5) - 4))), I (max 0 (min 4095 (((y' + dy) + v_6) - 4))), .ref 8 0, .ref 9 0, I dx, I dy, I (k - 1)] [some (.box [nilA]), some (.box [.arr 34]), some (.arr 3 (pts.length + 1) (catF pts.length (fPoint pts) (litF [I x', I y', I time'] 3))), some (bxl00Src s'_7)] [inR .i64 (k - 1)] (by kernel_rfl) ⟨(inR_i64 (by omega) (by omega)), trivial⟩ ?_
      refine xe_weak [(790, 34)] (T := [(0, .ref 7001 0), (1, I (time' + (1 + v_4))), (2, I (max 0 (min 4095 (((x' + dx) + v_5) - 4)))), (3, I (max 0 (min 4095 (((y' + dy) + v_6) - 4)))), (8, .ref 8 0), (9, .ref 9 0), (10, I dx), (11, I dy), (12, I (k - 1))]) (O := [(8, .box [nilA]), (9, .box [.arr 790]), (790, .arr 3 ((pts ++ [(Point.mk x' y' time')]).length) (fPoint (pts ++ [(Point.mk x' y' time')]))), (7001, bxl00Src s'_7)]) rfl (⟨.inl rfl, .inl rfl, .inl rfl, .inl rfl, .inl rfl, .inl rfl, .inl rfl, .inl rfl, .inl rfl, trivial⟩) (⟨.inl rfl, .inl rfl, .inr ⟨rfl, (by first | rfl | (simp; done) | (simp; omega) | omega), fun i hi => .inl (cat_snoc (enc := cPoint) (xs := pts) rfl i hi)⟩, .inl rfl, trivial⟩) (xe_again ((time' + (1 + v_4)), (max 0 (min 4095 (((x' + dx) + v_5) - 4))), (max 0 (min 4095 (((y' + dy) + v_6) - 4))), dx, dy, (k - 1), (pts ++ [(Point.mk x' y' time')]), s'_7) rfl (show (okSrc s'_7 ∧ s'_7.code = s.code ∧ s.atx ≤ s'_7.atx ∧ s'_7.atx ≤ s.atx + 6 + 12 * (10 - (k - 1))) ∧ (0 ≤ (k - 1) ∧ (k - 1) ≤ 10) ∧ (((pts ++ [(Point.mk x' y' time')]).length : Int) + (k - 1) ≤ 10 ∧ 1 ≤ ((pts ++ [(Point.mk x' y' time')]).length : Int) + (k - 1)) ∧ (time ≤ (time' + (1 + v_4)) ∧ (time' + (1 + v_4)) ≤ time + 21 * (10 - (k - 1))) ∧ (∀ p ∈ (pts ++ [(Point.mk x' y' time')]), time ≤ p.T ∧ p.T ≤ time + 210) ∧ (0 ≤ (max 0 (min 4095 (((x' + dx) + v_5) - 4))) ∧ (max 0 (min 4095 (((x' + dx) + v_5) - 4))) ≤ 100000 ∧ 0 ≤ (max 0 (min 4095 (((y' + dy) + v_6) - 4))) ∧ (max 0 (min 4095 (((y' + dy) + v_6) - 4))) ≤ 100000) ∧ (-40 ≤ dx ∧ dx ≤ 60 ∧ -40 ≤ dy ∧ dy ≤ 60) ∧ True from ⟨(by exact ⟨by assumption, by first | assumption | rfl | (simp only [*]; done), by omega, by omega⟩), (by omega), (by simp; omega), (by omega), (by exact all_snoc hp0 (by dsimp only; omega)), (by omega), (by omega), trivial⟩) (by show ((k - 1).toNat : Nat) < k.toNat; omega))
    ·refine x_reg [(1, .dec false)] [0, 1, 2, 3, 8, 9, 10, 11, 12, 24] [8, 9, 790, 7001] [.ref 7001 0, I time', I x', I y', .ref 8 0, .ref 9 0, I dx, I dy, I k, Bv false] [some (.box [nilA]), some (.box [.arr 790]), some (.arr 3 pts.length (fPoint pts)), some (bxl00Src src)] [¬ (0 < k)] (by kernel_rfl) ⟨h1, trivial⟩ ?_
     refine xe_then ?_
     refine x_false rfl ?_
     refine x_exit ?_
     refine xe_exit_then ?_
     refine xe_loop_exit ?_
     refine xe_exit_same ?_
     refine xe_then ?_
     refine x_seq ?_
     refine x_reg [] [8] [8, 790, 7001] [.ref 8 0] [some (.box [.arr 790]), some (.arr 3 pts.length (fPoint pts)), some (bxl00Src src)] [] (by kernel_rfl) trivial ?_
     refine xe_then ?_
     refine x_ret ?_
     refine xe_weak [(8001, 790)] (T := [(8, .ref 8 0)]) (O := [(8, .box [.arr 8001]), (7001, bxl00Src src), (8001, .arr 3 pts.length (fPoint pts))]) rfl (⟨.inl rfl, trivial⟩) (⟨.inl rfl, .inl rfl, .inl rfl, trivial⟩) ?_
     refine xe_end (src, pts) (show (okSrc src) ∧ (src.code = s.code) ∧ (s.atx + 0 ≤ src.atx ∧ src.atx ≤ s.atx + 200) ∧ (1 ≤ pts.length ∧ pts.length ≤ 10) ∧ (∀ p ∈ pts, time ≤ p.T ∧ p.T ≤ time + 210) ∧ (True) from ⟨(by first | omega | assumption | (simp_all; done)), (by first | omega | assumption | (simp_all; done)), (by first | omega | assumption | (simp_all; done)), (by first | omega | assumption | (simp_all; done)), (by first | omega | assumption | (simp_all; done)), trivial⟩) (⟨.inl rfl, .inl rfl, trivial⟩) (.agg [.arr 8001]) (by kernel_rfl) (.inl rfl) (fun h => by cases h) (fun h => by cases h)
  obtain ⟨⟨s', pts⟩, ⟨hh0, hh1, hh2, hh3, hh4, _⟩, hc⟩ := hh
  exact ⟨s', pts, hh0, hh1, hh2, hh3, hh4, hc⟩


-- spec.l02Last
theorem l02Last_ok (s : Stroke) (hl : 1 ≤ s.Points.length) : Con Tryz.prog 80 [.ptr false [slPoint false s.Points]] true (I ((at_ s.Points (s.Points.length - 1)).T)) := by
  refine fn_ok (fn := Tryz.f80) (nt := 16) Tryz.func80 rfl rfl rfl rfl (by simp [taggedL, tagged, tagPoint]) fun B hB => ?_
  refine aw_lens (x := .ptr false [slPoint false s.Points]) 0 rfl (fun len_s => ?_)
  simp [LenOK, LenL, cPoint, fPoint, slPoint] at len_s
  refine aw_seq ?_
  refine aw_reg [] [0] [] [.ptr false [slPoint false s.Points]] [] [] (by kernel_rfl) hB trivial ?_
  refine ae_then ?_
  refine aw_seq ?_
  refine aw_reg [] [2] [] [I ((at_ s.Points (((s.Points.length : Int) - 1).toNat)).T)] [] [inR .i64 ((s.Points.length : Int) - 1), (0 : Int) ≤ ((s.Points.length : Int) - 1) ∧ ((s.Points.length : Int) - 1) < (s.Points.length : Int)] (by kernel_rfl) hB ⟨(inR_i64 (by omega) (by omega)), ⟨(by omega), (by omega)⟩, trivial⟩ ?_
  refine ae_then ?_
  refine aw_ret ?_
  refine ae_ret hB (I ((at_ s.Points (((s.Points.length : Int) - 1).toNat)).T)) (by kernel_rfl) (.inl (by (have e : ((s.Points.length : Int) - 1).toNat = s.Points.length - 1 := by omega); rw [e])) rfl (fun _ => trivial)


theorem beq_ne {i k : Nat} (h : i ≠ k) : Nat.beq i k = false := Bool.eq_false_iff.2 fun e => h (Nat.eq_of_beq_eq_true e)
theorem at_set_eq {α : Type} [Inhabited α] {xs : List α} {k : Nat} {c : α} (h : k < xs.length) : at_ (xs.set k c) k = c := by simp [at_, h]
theorem at_set_ne {α : Type} [Inhabited α] {xs : List α} {k i : Nat} {c : α} (h : i ≠ k) : at_ (xs.set k c) i = at_ xs i := by
  have : ¬ k = i := fun e => h e.symm
  simp [at_, this]
theorem le_row {ob : Nat → Option Ob} {F N sz p n : Nat} {m : Nat → Nat} {g : Nat → Nat → List AV} {fr : Bool} {f : Nat → List AV} (h : ob F = some (.fam N sz m g)) (hp : p < N) (hn : m p = n)
    (hf : ∀ i, i < n → g p i = f i ∨ (AV.idsL (f i) = [] ∧ leL (fun _ => none) false (g p i) (f i))) : le ob true (.row F p) (.sl fr sz n f) := by
  simp only [le, h]
  exact ⟨fun _ => trivial, hp, trivial, hn, hf⟩

def Stroke.withPoints (x : Stroke) (ys : List Point) : Stroke := Stroke.mk ys
def oStrokec (F : Nat) (x : Stroke) (i : Nat) : List AV := [.row F i]
def oStroke (F : Nat) (xs : List Stroke) (i : Nat) : List AV := oStrokec F (at_ xs i) i
def mStroke (xs : List Stroke) (p : Nat) : Nat := ((at_ xs p).Points).length
def gStroke (xs : List Stroke) (p : Nat) : Nat → List AV := fPoint ((at_ xs p).Points)
theorem oleStroke {ob : Nat → Option Ob} {F : Nat} (fr : Bool) (xs : List Stroke) (h : ob F = some (.fam xs.length 3 (mStroke xs) (gStroke xs))) : ∀ i, i < xs.length → AV.idsL (fStroke fr xs i) = [] ∧ leL ob true (oStroke F xs i) (fStroke fr xs i) :=
  fun i hi => And.intro rfl (And.intro (le_row h hi rfl (fun q _ => .inl rfl)) rfl)
theorem olecatStroke {ob : Nat → Option Ob} {F : Nat} (fr : Bool) (xs : List Stroke) (x : Stroke) {f : Nat → List AV} (h : ob F = some (.fam xs.length 3 (mStroke xs) (gStroke xs))) (hx : leL ob true (f 0) (cStroke fr x)) : ∀ i, i < (xs ++ [x]).length → AV.idsL (fStroke fr (xs ++ [x]) i) = [] ∧ leL ob true (catF xs.length (oStroke F xs) f i) (fStroke fr (xs ++ [x]) i) := by
  intro i hi
  by_cases hl : i < xs.length
  · have := oleStroke fr xs h i hl
    rw [catF_lt hl]
    have e : fStroke fr (xs ++ [x]) i = fStroke fr xs i := by show cStroke fr (at_ _ _) = cStroke fr (at_ _ _); rw [at_left hl]
    rw [e]; exact this
  · have e : i = xs.length := by simp at hi; omega
    subst e
    rw [catF_ge (Nat.le_refl _), Nat.sub_self]
    have e : fStroke fr (xs ++ [x]) xs.length = cStroke fr x := by show cStroke fr (at_ _ _) = _; rw [at_right (Nat.le_refl _)]; simp [at_]
    rw [e]; exact ⟨rfl, hx⟩
theorem ocatStroke {F j N : Nat} (hF : Nat.beq F j = false) {xs : List Stroke} {x : Stroke} {g : Nat → List AV} (hN : N = xs.length) (hx : AV.joiL j F N (g 0) = oStrokec F x N) : ∀ i, i < (xs ++ [x]).length → AV.joiL j F N (catF xs.length (oStroke F xs) g i) = oStroke F (xs ++ [x]) i := by
  subst hN
  intro i hi
  by_cases h : i < xs.length
  · rw [catF_lt h]
    simp [oStroke, oStrokec, at_left h, AV.joiL, AV.joi, hF]
  · have e : i = xs.length := by simp at hi; omega
    subst e
    rw [catF_ge (Nat.le_refl _), Nat.sub_self, hx]
    simp [oStroke, at_right (Nat.le_refl _), at_]
theorem fcatStroke {xs : List Stroke} (x : Stroke) {n : Nat} {f : Nat → List AV} (hn : n = x.Points.length) (hf : ∀ i, i < n → f i = fPoint x.Points i) : xs.length + 1 = (xs ++ [x]).length ∧ 3 = 3 ∧ ∀ p, p < (xs ++ [x]).length → famUp xs.length n (mStroke xs) p = mStroke (xs ++ [x]) p ∧ ∀ i, i < mStroke (xs ++ [x]) p → famUpF xs.length f (gStroke xs) p i = gStroke (xs ++ [x]) p i ∨ (AV.idsL (gStroke (xs ++ [x]) p i) = [] ∧ leL (fun _ => none) false (famUpF xs.length f (gStroke xs) p i) (gStroke (xs ++ [x]) p i)) := by
  refine ⟨by simp, rfl, fun p hp => ?_⟩
  by_cases h : p < xs.length
  · have e : Nat.beq p xs.length = false := Bool.eq_false_iff.2 fun e => by have := Nat.eq_of_beq_eq_true e; omega
    simp [famUp, famUpF, e, mStroke, gStroke, at_left h]
  · have e : p = xs.length := by simp at hp; omega
    subst e
    have e2 : at_ (xs ++ [x]) xs.length = x := by simp [at_right (Nat.le_refl _), at_]
    simp only [famUp, famUpF, Nat.beq_refl, cond_true, mStroke, gStroke, e2]
    exact ⟨hn, fun i hi => .inl (hf i (by omega))⟩
theorem osetStroke (F P : Nat) (xs : List Stroke) (ys : List Point) (i : Nat) : oStroke F xs i = oStroke F (xs.set P (Stroke.withPoints (at_ xs P) ys)) i := by
  unfold oStroke
  by_cases h : P = i
  · subst h
    by_cases hl : P < xs.length
    · simp [at_, hl, oStrokec, Stroke.withPoints]
    · rw [List.set_eq_of_length_le (by omega)]
  · simp [at_, h]
theorem fsetStroke {xs : List Stroke} {P k : Nat} {c : Point} {g' : Nat → Nat → List AV} (hP : P < xs.length) (hk : k < ((at_ xs P).Points).length) (h1 : g' P k = cPoint c) (h2 : ∀ i, i ≠ k → g' P i = gStroke xs P i) (h3 : ∀ p, p ≠ P → g' p = gStroke xs p) : xs.length = (xs.set P (Stroke.withPoints (at_ xs P) (((at_ xs P).Points).set k c))).length ∧ 3 = 3 ∧ ∀ p, p < (xs.set P (Stroke.withPoints (at_ xs P) (((at_ xs P).Points).set k c))).length → mStroke xs p = mStroke (xs.set P (Stroke.withPoints (at_ xs P) (((at_ xs P).Points).set k c))) p ∧ ∀ i, i < mStroke (xs.set P (Stroke.withPoints (at_ xs P) (((at_ xs P).Points).set k c))) p → g' p i = gStroke (xs.set P (Stroke.withPoints (at_ xs P) (((at_ xs P).Points).set k c))) p i ∨ (AV.idsL (gStroke (xs.set P (Stroke.withPoints (at_ xs P) (((at_ xs P).Points).set k c))) p i) = [] ∧ leL (fun _ => none) false (g' p i) (gStroke (xs.set P (Stroke.withPoints (at_ xs P) (((at_ xs P).Points).set k c))) p i)) := by
  refine ⟨by simp, rfl, fun p hp => ?_⟩
  by_cases h : p = P
  · subst h
    have e2 : at_ (xs.set p (Stroke.withPoints (at_ xs p) (((at_ xs p).Points).set k c))) p = (Stroke.withPoints (at_ xs p) (((at_ xs p).Points).set k c)) := at_set_eq hP
    have e3 : (Stroke.withPoints (at_ xs p) (((at_ xs p).Points).set k c)).Points = ((at_ xs p).Points).set k c := rfl
    simp only [mStroke, gStroke, e2, e3]
    refine ⟨by simp, fun i hi => .inl ?_⟩
    by_cases hi2 : i = k
    · subst hi2
      rw [h1]
      show _ = cPoint (at_ _ _)
      rw [at_set_eq hk]
    · rw [h2 i hi2]
      show cPoint (at_ _ _) = cPoint (at_ _ _)
      rw [at_set_ne hi2]
  · have e : at_ (xs.set P (Stroke.withPoints (at_ xs P) (((at_ xs P).Points).set k c))) p = at_ xs p := at_set_ne h
    simp only [mStroke, gStroke, e]
    refine ⟨trivial, fun i hi => .inl ?_⟩
    rw [h3 p h]; rfl

-- spec.l02Draw
theorem l02Draw_ok (s : l00Src) (most : Int) (hs : okSrc s) (ha : s.atx ≤ 3999999999999995000) (hm : 0 ≤ most ∧ most ≤ 10) : ∃ (s' : l00Src) (ss : List Stroke), (okSrc s') ∧ (s'.code = s.code) ∧ (s.atx + 0 ≤ s'.atx ∧ s'.atx ≤ s.atx + 3000) ∧ ((ss.length : Int) ≤ most) ∧ (∀ t ∈ ss, 1 ≤ t.Points.length ∧ t.Points.length ≤ 10) ∧ CallOK Tryz.prog 109 [.ref 7001 0, I most] (lookO [(7001, bxl00Src s)]) false (.agg [.arr 8011]) (lookO [(7001, bxl00Src s'), (8011, .oar [8012] 1 ss.length (oStroke 8012 ss)), (8012, .fam ss.length 3 (mStroke ss) (gStroke ss))]) := by
  have hh : ∃ r : l00Src × (List Stroke), ((okSrc r.1) ∧ (r.1.code = s.code) ∧ (s.atx + 0 ≤ r.1.atx ∧ r.1.atx ≤ s.atx + 3000) ∧ ((r.2.length : Int) ≤ most) ∧ (∀ t ∈ r.2, 1 ≤ t.Points.length ∧ t.Points.length ≤ 10) ∧ (True)) ∧ CallOK Tryz.prog 109 [.ref 7001 0, I most] (lookO [(7001, bxl00Src s)]) false (.agg [.arr 8011]) (lookO [(7001, bxl00Src r.1), (8011, .oar [8012] 1 r.2.length (oStroke 8012 r.2)), (8012, .fam r.2.length 3 (mStroke r.2) (gStroke r.2))]) := by
    refine fn_okX (Φ := fun r : l00Src × (List Stroke) => (okSrc r.1) ∧ (r.1.code = s.code) ∧ (s.atx + 0 ≤ r.1.atx ∧ r.1.atx ≤ s.atx + 3000) ∧ ((r.2.length : Int) ≤ most) ∧ (∀ t ∈ r.2, 1 ≤ t.Points.length ∧ t.Points.length ≤ 10) ∧ (True)) [(7001, bxl00Src s)] (fun r => [(7001, bxl00Src r.1), (8011, .oar [8012] 1 r.2.length (oStroke 8012 r.2)), (8012, .fam r.2.length 3 (mStroke r.2) (gStroke r.2))]) (fn := Tryz.f109) (nt := 47) Tryz.func109 rfl rfl (args := [.ref 7001 0, I most]) rfl (allcons (.inr trivial) (allcons (.inl ⟨rfl, trivial⟩) allnil)) (res := fun r => .agg [.arr 8011]) ?_
    refine x_seq ?_
    refine x_reg [(0, .new 4)] [0, 1, 4] [4, 7001] [.ref 7001 0, I most, .ref 4 0] [some (.box [nilA]), some (bxl00Src s)] [] (by kernel_rfl) trivial ?_
    refine xe_then ?_
    refine x_seq ?_
    refine x_reg [(1, .new 5)] [0, 1, 4, 5] [4, 5, 7001] [.ref 7001 0, I most, .ref 4 0, .ref 5 0] [some (.box [nilA]), some (.box [nilA]), some (bxl00Src s)] [] (by kernel_rfl) trivial ?_
    refine xe_then ?_
    refine x_seq ?_
    obtain ⟨v_1, s'_1, hx1_0, hx1_1, hx1_2, hx1_3, hc1⟩ := pick_ok s 100 (by first | assumption | (simp only [okSrc] at *; simp_all; done)) (by omega)
    refine x_reg [(1, .lend [(7001, bxl00Src s, bxl00Src s'_1)] [] [(true, .ref 7001 0), (true, I 100)] true (I v_1))] [0, 1, 4, 5, 6] [4, 5, 7001] [.ref 7001 0, I most, .ref 4 0, .ref 5 0, I v_1] [some (.box [nilA]), some (.box [nilA]), some (bxl00Src s'_1)] [CallOK Tryz.prog 39 [.ref 7001 0, I 100] (lookO [(7001, bxl00Src s)]) true (I v_1) (lookO [(7001, bxl00Src s'_1)]) ∧ ((.ref 7001 0 : AV) = .ref 7001 0) ∧ ((I 100 : AV) = I 100) ∧ (((bxl00Src s : Ob) = bxl00Src s ∨ obLe noOb true (bxl00Src s) (bxl00Src s)) ∧ taggedO false (bxl00Src s)) ∧ True] (by kernel_rfl) ⟨⟨hc1, rfl, rfl, ⟨.inl rfl, (by simp [taggedO, taggedL, tagged, tagU8])⟩, trivial⟩, trivial⟩ ?_
    refine xe_then ?_
    refine x_seq ?_
    obtain ⟨v_2, s'_2, hx2_0, hx2_1, hx2_2, hx2_3, hc2⟩ := pick_ok s'_1 200 (by first | assumption | (simp only [okSrc] at *; simp_all; done)) (by omega)
    refine x_reg [(1, .lend [(7001, bxl00Src s'_1, bxl00Src s'_2)] [] [(true, .ref 7001 0), (true, I 200)] true (I v_2))] [0, 1, 4, 5, 6, 7] [4, 5, 7001] [.ref 7001 0, I most, .ref 4 0, .ref 5 0, I v_1, I (100 + v_2)] [some (.box [nilA]), some (.box [nilA]), some (bxl00Src s'_2)] [CallOK Tryz.prog 39 [.ref 7001 0, I 200] (lookO [(7001, bxl00Src s'_1)]) true (I v_2) (lookO [(7001, bxl00Src s'_2)]) ∧ ((.ref 7001 0 : AV) = .ref 7001 0) ∧ ((I 200 : AV) = I 200) ∧ (((bxl00Src s'_1 : Ob) = bxl00Src s'_1 ∨ obLe noOb true (bxl00Src s'_1) (bxl00Src s'_1)) ∧ taggedO false (bxl00Src s'_1)) ∧ True, inR .i64 (100 + v_2)] (by kernel_rfl) ⟨⟨hc2, rfl, rfl, ⟨.inl rfl, (by simp [taggedO, taggedL, tagged, tagU8])⟩, trivial⟩, (inR_i64 (by omega) (by omega)), trivial⟩ ?_
    refine xe_then ?_
    refine x_seq ?_
    refine x_seq ?_
    obtain ⟨v_3, s'_3, hx3_0, hx3_1, hx3_2, hx3_3, hc3⟩ := pick_ok s'_2 (most + 1) (by first | assumption | (simp only [okSrc] at *; simp_all; done)) (by omega)
    refine x_reg [(3, .lend [(7001, bxl00Src s'_2, bxl00Src s'_3)] [] [(true, .ref 7001 0), (true, I (most + 1))] true (I v_3))] [0, 4, 5, 6, 7, 8] [4, 5, 7001] [.ref 7001 0, .ref 4 0, .ref 5 0, I v_1, I (100 + v_2), I v_3] [some (.box [nilA]), some (.box [nilA]), some (bxl00Src s'_3)] [inR .i64 (most + 1), CallOK Tryz.prog 39 [.ref 7001 0, I (most + 1)] (lookO [(7001, bxl00Src s'_2)]) true (I v_3) (lookO [(7001, bxl00Src s'_3)]) ∧ ((.ref 7001 0 : AV) = .ref 7001 0) ∧ ((I (most + 1) : AV) = I (most + 1)) ∧ (((bxl00Src s'_2 : Ob) = bxl00Src s'_2 ∨ obLe noOb true (bxl00Src s'_2) (bxl00Src s'_2)) ∧ taggedO false (bxl00Src s'_2)) ∧ True] (by kernel_rfl) ⟨(inR_i64 (by omega) (by omega)), ⟨hc3, rfl, rfl, ⟨.inl rfl, (by simp [taggedO, taggedL, tagged, tagU8])⟩, trivial⟩, trivial⟩ ?_
    refine xe_then ?_
    refine x_block ?_
    refine x_nilC 5 0 750 1 (fun _ => []) rfl (by kernel_rfl) ?_
    refine x_fam 8012 3 (fun _ => 0) (fun _ _ => []) (by kernel_rfl) ?_
    refine x_weak [] (T := [(0, .ref 7001 0), (4, .ref 4 0), (5, .ref 5 0), (6, I v_1), (7, I (100 + v_2)), (8, I v_3)]) (O := [(4, .box [nilA]), (5, .box [.arr 750]), (750, .oar [8012] 1 (([] : List Stroke).length) (oStroke 8012 ([] : List Stroke))), (7001, bxl00Src s'_3), (8012, .fam ([] : List Stroke).length 3 (mStroke ([] : List Stroke)) (gStroke ([] : List Stroke)))]) rfl (⟨.inl rfl, .inl rfl, .inl rfl, .inl rfl, .inl rfl, .inl rfl, trivial⟩) (⟨.inl rfl, .inl rfl, .inr ⟨rfl, rfl, fun i hi => absurd hi (Nat.not_lt_zero _)⟩, .inl rfl, .inr ⟨rfl, rfl, fun p hp => absurd hp (Nat.not_lt_zero _)⟩, trivial⟩) ?_
    refine x_loop (X := Int × Int × Int × (List Stroke) × l00Src) (fun x => mkS [(0, .ref 7001 0), (4, .ref 4 0), (5, .ref 5 0), (6, I x.1), (7, I x.2.1), (8, I x.2.2.1)] [(4, .box [nilA]), (5, .box [.arr 750]), (750, .oar [8012] 1 x.2.2.2.1.length (oStroke 8012 x.2.2.2.1)), (7001, bxl00Src x.2.2.2.2), (8012, .fam x.2.2.2.1.length 3 (mStroke x.2.2.2.1) (gStroke x.2.2.2.1))]) (fun x => (okSrc x.2.2.2.2 ∧ x.2.2.2.2.code = s.code ∧ s.atx ≤ x.2.2.2.2.atx ∧ x.2.2.2.2.atx ≤ s.atx + 10 + 210 * (most - x.2.2.1)) ∧ (0 ≤ x.2.2.1 ∧ x.2.2.1 ≤ most) ∧ ((x.2.2.2.1.length : Int) + x.2.2.1 ≤ most) ∧ (0 ≤ x.1 ∧ x.1 ≤ 100 + 500 * (most - x.2.2.1)) ∧ (∀ t ∈ x.2.2.2.1, 1 ≤ t.Points.length ∧ t.Points.length ≤ 10) ∧ (0 ≤ x.2.1 ∧ x.2.1 ≤ 300 + 200 * (most - x.2.2.1)) ∧ True) (fun x => x.2.2.1.toNat) (v_1, (100 + v_2), v_3, ([] : List Stroke), s'_3) rfl (show (okSrc s'_3 ∧ s'_3.code = s.code ∧ s.atx ≤ s'_3.atx ∧ s'_3.atx ≤ s.atx + 10 + 210 * (most - v_3)) ∧ (0 ≤ v_3 ∧ v_3 ≤ most) ∧ ((([] : List Stroke).length : Int) + v_3 ≤ most) ∧ (0 ≤ v_1 ∧ v_1 ≤ 100 + 500 * (most - v_3)) ∧ (∀ t ∈ ([] : List Stroke), 1 ≤ t.Points.length ∧ t.Points.length ≤ 10) ∧ (0 ≤ (100 + v_2) ∧ (100 + v_2) ≤ 300 + 200 * (most - v_3)) ∧ True from ⟨(by exact ⟨by assumption, by first | assumption | rfl | (simp only [*]; done), by omega, by omega⟩), (by omega), (by simp; omega), (by omega), (by (intro z hz; simp at hz)), (by omega), trivial⟩) (fun x hI => ?_)
    obtain ⟨time, x, k, ss, src⟩ := x
    obtain ⟨hs0, hk0, hl0, ht0, hp0, hx0, _⟩ : (okSrc src ∧ src.code = s.code ∧ s.atx ≤ src.atx ∧ src.atx ≤ s.atx + 10 + 210 * (most - k)) ∧ (0 ≤ k ∧ k ≤ most) ∧ ((ss.length : Int) + k ≤ most) ∧ (0 ≤ time ∧ time ≤ 100 + 500 * (most - k)) ∧ (∀ t ∈ ss, 1 ≤ t.Points.length ∧ t.Points.length ≤ 10) ∧ (0 ≤ x ∧ x ≤ 300 + 200 * (most - k)) ∧ True := hI
    show XW _ _ _ _ (mkS [(0, .ref 7001 0), (4, .ref 4 0), (5, .ref 5 0), (6, I time), (7, I x), (8, I k)] [(4, .box [nilA]), (5, .box [.arr 750]), (750, .oar [8012] 1 ss.length (oStroke 8012 ss)), (7001, bxl00Src src), (8012, .fam ss.length 3 (mStroke ss) (gStroke ss))]) _ _
    refine x_seq ?_
    refine x_seq ?_
    by_cases h1 : 0 < k
    ·refine x_reg [(1, .dec true)] [0, 4, 5, 6, 7, 8, 21] [4, 5, 750, 7001, 8012] [.ref 7001 0, .ref 4 0, .ref 5 0, I time, I x, I k, Bv true] [some (.box [nilA]), some (.box [.arr 750]), some (.oar [8012] 1 ss.length (oStroke 8012 ss)), some (bxl00Src src), some (.fam ss.length 3 (mStroke ss) (gStroke ss))] [0 < k] (by kernel_rfl) ⟨h1, trivial⟩ ?_
     refine xe_then ?_
     refine x_true rfl ?_
     refine x_skip ?_
     refine xe_then ?_
     refine x_seq ?_
     refine x_block ?_
     refine x_seq ?_
     obtain ⟨v_4, s'_4, hx4_0, hx4_1, hx4_2, hx4_3, hc4⟩ := pick_ok src 200 (by first | assumption | (simp only [okSrc] at *; simp_all; done)) (by omega)
     obtain ⟨s'_5, pts_5, hx5_0, hx5_1, hx5_2, hx5_3, hx5_4, hc5⟩ := l02DrawStroke_ok s'_4 time x (300 + v_4) (by first | assumption | (simp only [okSrc] at *; simp_all; done)) (by omega) (by omega)
     have hlt : time ≤ (at_ (Stroke.mk pts_5).Points ((Stroke.mk pts_5).Points.length - 1)).T ∧ (at_ (Stroke.mk pts_5).Points ((Stroke.mk pts_5).Points.length - 1)).T ≤ time + 210 := hx5_4 _ (last_mem (xs := pts_5) (by omega))
     refine x_reg [(4, .lend [(7001, bxl00Src src, bxl00Src s'_4)] [] [(true, .ref 7001 0), (true, I 200)] true (I v_4)), (6, .lend [(7001, bxl00Src s'_4, bxl00Src s'_5)] [(8001, .arr 3 pts_5.length (fPoint pts_5))] [(true, .ref 7001 0), (true, I time), (true, I x), (true, I (300 + v_4))] false (.agg [.arr 8001])), (7, .new 9)] [0, 4, 5, 7, 8, 9] [4, 5, 9, 750, 7001, 8001, 8012] [.ref 7001 0, .ref 4 0, .ref 5 0, I x, I k, .ref 9 0] [some (.box [nilA]), some (.box [.arr 750]), some (.box [.arr 8001]), some (.oar [8012] 1 ss.length (oStroke 8012 ss)), some (bxl00Src s'_5), some (.arr 3 pts_5.length (fPoint pts_5)), some (.fam ss.length 3 (mStroke ss) (gStroke ss))] [CallOK Tryz.prog 39 [.ref 7001 0, I 200] (lookO [(7001, bxl00Src src)]) true (I v_4) (lookO [(7001, bxl00Src s'_4)]) ∧ ((.ref 7001 0 : AV) = .ref 7001 0) ∧ ((I 200 : AV) = I 200) ∧ (((bxl00Src src : Ob) = bxl00Src src ∨ obLe noOb true (bxl00Src src) (bxl00Src src)) ∧ taggedO false (bxl00Src src)) ∧ True, inR .i64 (300 + v_4), CallOK Tryz.prog 90 [.ref 7001 0, I time, I x, I (300 + v_4)] (lookO [(7001, bxl00Src s'_4)]) false (.agg [.arr 8001]) (lookO [(7001, bxl00Src s'_5), (8001, .arr 3 pts_5.length (fPoint pts_5))]) ∧ ((.ref 7001 0 : AV) = .ref 7001 0) ∧ ((I time : AV) = I time) ∧ ((I x : AV) = I x) ∧ ((I (300 + v_4) : AV) = I (300 + v_4)) ∧ (((bxl00Src s'_4 : Ob) = bxl00Src s'_4 ∨ obLe noOb true (bxl00Src s'_4) (bxl00Src s'_4)) ∧ taggedO false (bxl00Src s'_4)) ∧ True] (by kernel_rfl) ⟨⟨hc4, rfl, rfl, ⟨.inl rfl, (by simp [taggedO, taggedL, tagged, tagU8])⟩, trivial⟩, (inR_i64 (by omega) (by omega)), ⟨hc5, rfl, rfl, rfl, rfl, ⟨.inl rfl, (by simp [taggedO, taggedL, tagged, tagU8])⟩, trivial⟩, trivial⟩ ?_
     refine xe_then ?_
     refine x_seq ?_
     refine x_reg [(3, .new 34), (4, .new 35)] [0, 4, 5, 7, 8, 9] [4, 5, 9, 35, 7001, 8001, 8012] [.ref 7001 0, .ref 4 0, .ref 5 0, I x, I k, .ref 9 0] [some (.box [nilA]), some (.box [.arr 35]), some (.box [.arr 8001]), some (.oar [8012, 8001] 1 (ss.length + 1) (catF ss.length (oStroke 8012 ss) (litF [.arr 8001] 1))), some (bxl00Src s'_5), some (.arr 3 pts_5.length (fPoint pts_5)), some (.fam ss.length 3 (mStroke ss) (gStroke ss))] [(ss.length + 1) * 24 ≤ 140737488355328] (by kernel_rfl) ⟨(by omega), trivial⟩ ?_
     refine xe_then ?_
     refine x_seq ?_
     obtain ⟨v_6, s'_6, hx6_0, hx6_1, hx6_2, hx6_3, hc6⟩ := pick_ok s'_5 200 (by first | assumption | (simp only [okSrc] at *; simp_all; done)) (by omega)
     refine x_reg [(0, .call [(false, .ptr false [slPoint false pts_5])] true (I ((at_ (Stroke.mk pts_5).Points ((Stroke.mk pts_5).Points.length - 1)).T))), (3, .lend [(7001, bxl00Src s'_5, bxl00Src s'_6)] [] [(true, .ref 7001 0), (true, I 200)] true (I v_6))] [0, 4, 5, 6, 7, 8] [4, 5, 35, 7001, 8001, 8012] [.ref 7001 0, .ref 4 0, .ref 5 0, I ((((at_ (Stroke.mk pts_5).Points ((Stroke.mk pts_5).Points.length - 1)).T) + 1) + v_6), I x, I k] [some (.box [nilA]), some (.box [.arr 35]), some (.oar [8012, 8001] 1 (ss.length + 1) (catF ss.length (oStroke 8012 ss) (litF [.arr 8001] 1))), some (bxl00Src s'_6), some (.arr 3 pts_5.length (fPoint pts_5)), some (.fam ss.length 3 (mStroke ss) (gStroke ss))] [Con Tryz.prog 80 [.ptr false [slPoint false pts_5]] true (I ((at_ (Stroke.mk pts_5).Points ((Stroke.mk pts_5).Points.length - 1)).T)) ∧ ((false = true → true = true) ∧ AV.idsL [slPoint false pts_5] = [] ∧ ((false = true → true = true) ∧ 3 = 3 ∧ pts_5.length = pts_5.length ∧ ∀ i, i < pts_5.length → (fPoint pts_5) i = (fPoint pts_5) i ∨ (AV.idsL ((fPoint pts_5) i) = [] ∧ leL (fun _ => none) false ((fPoint pts_5) i) ((fPoint pts_5) i))) ∧ ([] : List AV) = []) ∧ True, inR .i64 (((at_ (Stroke.mk pts_5).Points ((Stroke.mk pts_5).Points.length - 1)).T) + 1), CallOK Tryz.prog 39 [.ref 7001 0, I 200] (lookO [(7001, bxl00Src s'_5)]) true (I v_6) (lookO [(7001, bxl00Src s'_6)]) ∧ ((.ref 7001 0 : AV) = .ref 7001 0) ∧ ((I 200 : AV) = I 200) ∧ (((bxl00Src s'_5 : Ob) = bxl00Src s'_5 ∨ obLe noOb true (bxl00Src s'_5) (bxl00Src s'_5)) ∧ taggedO false (bxl00Src s'_5)) ∧ True, inR .i64 ((((at_ (Stroke.mk pts_5).Points ((Stroke.mk pts_5).Points.length - 1)).T) + 1) + v_6)] (by kernel_rfl) ⟨⟨(l02Last_ok (Stroke.mk pts_5) (by first | assumption | (simp only; omega))), ⟨(fun h => by cases h), rfl, ⟨⟨(fun h => by cases h), rfl, rfl, fun i _ => .inl rfl⟩, rfl⟩⟩, trivial⟩, (inR_i64 (by omega) (by omega)), ⟨hc6, rfl, rfl, ⟨.inl rfl, (by simp [taggedO, taggedL, tagged, tagU8])⟩, trivial⟩, (inR_i64 (by omega) (by omega)), trivial⟩ ?_
     refine xe_then ?_
     obtain ⟨v_7, s'_7, hx7_0, hx7_1, hx7_2, hx7_3, hc7⟩ := pick_ok s'_6 200 (by first | assumption | (simp only [okSrc] at *; simp_all; done)) (by omega)
     refine x_reg [(2, .lend [(7001, bxl00Src s'_6, bxl00Src s'_7)] [] [(true, .ref 7001 0), (true, I 200)] true (I v_7))] [0, 4, 5, 6, 7, 8] [4, 5, 35, 7001, 8001, 8012] [.ref 7001 0, .ref 4 0, .ref 5 0, I ((((at_ (Stroke.mk pts_5).Points ((Stroke.mk pts_5).Points.length - 1)).T) + 1) + v_6), I (x + v_7), I k] [some (.box [nilA]), some (.box [.arr 35]), some (.oar [8012, 8001] 1 (ss.length + 1) (catF ss.length (oStroke 8012 ss) (litF [.arr 8001] 1))), some (bxl00Src s'_7), some (.arr 3 pts_5.length (fPoint pts_5)), some (.fam ss.length 3 (mStroke ss) (gStroke ss))] [CallOK Tryz.prog 39 [.ref 7001 0, I 200] (lookO [(7001, bxl00Src s'_6)]) true (I v_7) (lookO [(7001, bxl00Src s'_7)]) ∧ ((.ref 7001 0 : AV) = .ref 7001 0) ∧ ((I 200 : AV) = I 200) ∧ (((bxl00Src s'_6 : Ob) = bxl00Src s'_6 ∨ obLe noOb true (bxl00Src s'_6) (bxl00Src s'_6)) ∧ taggedO false (bxl00Src s'_6)) ∧ True, inR .i64 (x + v_7)] (by kernel_rfl) ⟨⟨hc7, rfl, rfl, ⟨.inl rfl, (by simp [taggedO, taggedL, tagged, tagU8])⟩, trivial⟩, (inR_i64 (by omega) (by omega)), trivial⟩ ?_
     refine xe_block 1 ?_
     refine xe_then ?_
     refine x_reg [] [0, 4, 5, 6, 7, 8] [4, 5, 35, 7001, 8001, 8012] [.ref 7001 0, .ref 4 0, .ref 5 0, I ((((at_ (Stroke.mk pts_5).Points ((Stroke.mk pts_5).Points.length - 1)).T) + 1) + v_6), I (x + v_7), I (k - 1)] [some (.box [nilA]), some (.box [.arr 35]), some (.oar [8012, 8001] 1 (ss.length + 1) (catF ss.length (oStroke 8012 ss) (litF [.arr 8001] 1))), some (bxl00Src s'_7), some (.arr 3 pts_5.length (fPoint pts_5)), some (.fam ss.length 3 (mStroke ss) (gStroke ss))] [inR .i64 (k - 1)] (by kernel_rfl) ⟨(inR_i64 (by omega) (by omega)), trivial⟩ ?_
     refine xe_join 8001 8012 rfl rfl rfl ?_
     refine xe_weak [(750, 35)] (T := [(0, .ref 7001 0), (4, .ref 4 0), (5, .ref 5 0), (6, I ((((at_ (Stroke.mk pts_5).Points ((Stroke.mk pts_5).Points.length - 1)).T) + 1) + v_6)), (7, I (x + v_7)), (8, I (k - 1))]) (O := [(4, .box [nilA]), (5, .box [.arr 750]), (750, .oar [8012] 1 ((ss ++ [(Stroke.mk pts_5)]).length) (oStroke 8012 (ss ++ [(Stroke.mk pts_5)]))), (7001, bxl00Src s'_7), (8012, .fam (ss ++ [(Stroke.mk pts_5)]).length 3 (mStroke (ss ++ [(Stroke.mk pts_5)])) (gStroke (ss ++ [(Stroke.mk pts_5)])))]) rfl (⟨.inl rfl, .inl rfl, .inl rfl, .inl rfl, .inl rfl, .inl rfl, trivial⟩) (⟨.inl rfl, .inl rfl, .inr ⟨rfl, rfl, (by simp), fun i hi => .inl (ocatStroke rfl rfl rfl i hi)⟩, .inl rfl, .inr (fcatStroke (Stroke.mk pts_5) (by first | rfl | (simp; done)) (fun i hi => (by first | rfl | fail))), trivial⟩) (xe_again (((((at_ (Stroke.mk pts_5).Points ((Stroke.mk pts_5).Points.length - 1)).T) + 1) + v_6), (x + v_7), (k - 1), (ss ++ [(Stroke.mk pts_5)]), s'_7) rfl (show (okSrc s'_7 ∧ s'_7.code = s.code ∧ s.atx ≤ s'_7.atx ∧ s'_7.atx ≤ s.atx + 10 + 210 * (most - (k - 1))) ∧ (0 ≤ (k - 1) ∧ (k - 1) ≤ most) ∧ (((ss ++ [(Stroke.mk pts_5)]).length : Int) + (k - 1) ≤ most) ∧ (0 ≤ ((((at_ (Stroke.mk pts_5).Points ((Stroke.mk pts_5).Points.length - 1)).T) + 1) + v_6) ∧ ((((at_ (Stroke.mk pts_5).Points ((Stroke.mk pts_5).Points.length - 1)).T) + 1) + v_6) ≤ 100 + 500 * (most - (k - 1))) ∧ (∀ t ∈ (ss ++ [(Stroke.mk pts_5)]), 1 ≤ t.Points.length ∧ t.Points.length ≤ 10) ∧ (0 ≤ (x + v_7) ∧ (x + v_7) ≤ 300 + 200 * (most - (k - 1))) ∧ True from ⟨(by exact ⟨by assumption, by first | assumption | rfl | (simp only [*]; done), by omega, by omega⟩), (by omega), (by simp; omega), (by omega), (by exact all_snoc hp0 (by dsimp only; omega)), (by omega), trivial⟩) (by show ((k - 1).toNat : Nat) < k.toNat; omega))
    ·refine x_reg [(1, .dec false)] [0, 4, 5, 6, 7, 8, 21] [4, 5, 750, 7001, 8012] [.ref 7001 0, .ref 4 0, .ref 5 0, I time, I x, I k, Bv false] [some (.box [nilA]), some (.box [.arr 750]), some (.oar [8012] 1 ss.length (oStroke 8012 ss)), some (bxl00Src src), some (.fam ss.length 3 (mStroke ss) (gStroke ss))] [¬ (0 < k)] (by kernel_rfl) ⟨h1, trivial⟩ ?_
     refine xe_then ?_
     refine x_false rfl ?_
     refine x_exit ?_
     refine xe_exit_then ?_
     refine xe_loop_exit ?_
     refine xe_exit_same ?_
     refine xe_then ?_
     refine x_seq ?_
     refine x_reg [] [4] [4, 750, 7001, 8012] [.ref 4 0] [some (.box [.arr 750]), some (.oar [8012] 1 ss.length (oStroke 8012 ss)), some (bxl00Src src), some (.fam ss.length 3 (mStroke ss) (gStroke ss))] [] (by kernel_rfl) trivial ?_
     refine xe_then ?_
     refine x_ret ?_
     refine xe_weak [(8011, 750)] (T := [(4, .ref 4 0)]) (O := [(4, .box [.arr 8011]), (7001, bxl00Src src), (8011, .oar [8012] 1 ss.length (oStroke 8012 ss)), (8012, .fam ss.length 3 (mStroke ss) (gStroke ss))]) rfl (⟨.inl rfl, trivial⟩) (⟨.inl rfl, .inl rfl, .inl rfl, .inl rfl, trivial⟩) ?_
     refine xe_end (src, ss) (show (okSrc src) ∧ (src.code = s.code) ∧ (s.atx + 0 ≤ src.atx ∧ src.atx ≤ s.atx + 3000) ∧ ((ss.length : Int) ≤ most) ∧ (∀ t ∈ ss, 1 ≤ t.Points.length ∧ t.Points.length ≤ 10) ∧ (True) from ⟨(by first | omega | assumption | rfl | (simp; done) | (simp; omega) | (simp_all; done)), (by first | omega | assumption | rfl | (simp; done) | (simp; omega) | (simp_all; done)), (by first | omega | assumption | rfl | (simp; done) | (simp; omega) | (simp_all; done)), (by first | omega | assumption | rfl | (simp; done) | (simp; omega) | (simp_all; done)), (by first | omega | assumption | rfl | (simp; done) | (simp; omega) | (simp_all; done)), trivial⟩) (⟨.inl rfl, .inl rfl, .inl rfl, trivial⟩) (.agg [.arr 8011]) (by kernel_rfl) (.inl rfl) (fun h => by cases h) (fun h => by cases h)
  obtain ⟨⟨s', ss⟩, ⟨hh0, hh1, hh2, hh3, hh4, _⟩, hc⟩ := hh
  exact ⟨s', ss, hh0, hh1, hh2, hh3, hh4, hc⟩


-- spec.l02Long
theorem l02Long_ok (n : Int) (hn : n ≤ 100000) : ∃ (v : Stroke), ((v.Points.length : Int) = max 0 n) ∧ Con Tryz.prog 110 [I n] true (.agg [slPoint true v.Points]) := by
  have hh : ∃ r : Stroke, (((r.Points.length : Int) = max 0 n) ∧ (True)) ∧ CallOK Tryz.prog 110 [I n] (lookO []) true (.agg [slPoint true r.Points]) (lookO []) := by
    refine fn_okX (Φ := fun r : Stroke => ((r.Points.length : Int) = max 0 n) ∧ (True)) [] (fun r => []) (fn := Tryz.f110) (nt := 25) Tryz.func110 rfl rfl (args := [I n]) rfl (allcons (.inl ⟨rfl, trivial⟩) allnil) (res := fun r => .agg [slPoint true r.Points]) ?_
    refine x_seq ?_
    refine x_reg [(0, .new 2)] [0, 2] [2] [I n, .ref 2 0] [some (.box [nilA])] [] (by kernel_rfl) trivial ?_
    refine xe_then ?_
    refine x_seq ?_
    refine x_reg [(1, .new 3)] [0, 2, 3] [2, 3] [I n, .ref 2 0, .ref 3 0] [some (.box [nilA]), some (.box [nilA])] [] (by kernel_rfl) trivial ?_
    refine xe_then ?_
    refine x_seq ?_
    refine x_seq ?_
    refine x_reg [] [0, 2, 3, 4] [2, 3] [I n, .ref 2 0, .ref 3 0, I 0] [some (.box [nilA]), some (.box [nilA])] [] (by kernel_rfl) trivial ?_
    refine xe_then ?_
    refine x_block ?_
    refine x_nilC 3 0 730 3 (fun _ => []) rfl (by kernel_rfl) ?_
    refine x_weak [] (T := [(0, I n), (2, .ref 2 0), (3, .ref 3 0), (4, I 0)]) (O := [(2, .box [nilA]), (3, .box [.arr 730]), (730, .arr 3 (([] : List Point).length) (fPoint ([] : List Point)))]) rfl (⟨.inl rfl, .inl rfl, .inl rfl, .inl rfl, trivial⟩) (⟨.inl rfl, .inl rfl, .inr ⟨rfl, (by first | rfl | (simp; done) | (simp; omega) | omega), fun i hi => absurd hi (Nat.not_lt_zero _)⟩, trivial⟩) ?_
    refine x_loop (X := Int × (List Point)) (fun x => mkS [(0, I n), (2, .ref 2 0), (3, .ref 3 0), (4, I x.1)] [(2, .box [nilA]), (3, .box [.arr 730]), (730, .arr 3 x.2.length (fPoint x.2))]) (fun x => (0 ≤ x.1 ∧ (x.1 ≤ n ∨ x.1 = 0)) ∧ ((x.2.length : Int) = x.1) ∧ True) (fun x => (n - x.1).toNat) (0, ([] : List Point)) rfl (show (0 ≤ (0 : Int) ∧ ((0 : Int) ≤ n ∨ (0 : Int) = 0)) ∧ ((([] : List Point).length : Int) = (0 : Int)) ∧ True from ⟨(by omega), (by rfl), trivial⟩) (fun x hI => ?_)
    obtain ⟨k, pts⟩ := x
    obtain ⟨hk0, hl0, _⟩ : (0 ≤ k ∧ (k ≤ n ∨ k = 0)) ∧ ((pts.length : Int) = k) ∧ True := hI
    show XW _ _ _ _ (mkS [(0, I n), (2, .ref 2 0), (3, .ref 3 0), (4, I k)] [(2, .box [nilA]), (3, .box [.arr 730]), (730, .arr 3 pts.length (fPoint pts))]) _ _
    refine x_seq ?_
    refine x_seq ?_
    by_cases h1 : k < n
    ·refine x_reg [(2, .dec true)] [0, 2, 3, 4, 8] [2, 3, 730] [I n, .ref 2 0, .ref 3 0, I k, Bv true] [some (.box [nilA]), some (.box [.arr 730]), some (.arr 3 pts.length (fPoint pts))] [k < n] (by kernel_rfl) ⟨h1, trivial⟩ ?_
     refine xe_then ?_
     refine x_true rfl ?_
     refine x_skip ?_
     refine xe_then ?_
     refine x_seq ?_
     refine x_block ?_
     refine x_reg [(5, .nn), (10, .new 21), (11, .new 22)] [0, 2, 3, 4] [2, 3, 22] [I n, .ref 2 0, .ref 3 0, I k] [some (.box [nilA]), some (.box [.arr 22]), some (.arr 3 (pts.length + 1) (catF pts.length (fPoint pts) (litF [I (10 + k), I (50 - (k / 2)), I (3 * k)] 3)))] [inR .i64 (10 + k), (0 : Int) ≤ k ∧ (0 : Int) < 2 ∧ inR .i64 k, inR .i64 (50 - (k / 2)), inR .i64 (3 * k), (pts.length + 1) * 24 ≤ 140737488355328] (by kernel_rfl) ⟨(inR_i64 (by omega) (by omega)), ⟨(by omega), (by omega), (inR_i64 (by omega) (by omega))⟩, (inR_i64 (by omega) (by omega)), (inR_i64 (by omega) (by omega)), (by omega), trivial⟩ ?_
     refine xe_block 1 ?_
     refine xe_then ?_
     refine x_reg [] [0, 2, 3, 4] [2, 3, 22] [I n, .ref 2 0, .ref 3 0, I (k + 1)] [some (.box [nilA]), some (.box [.arr 22]), some (.arr 3 (pts.length + 1) (catF pts.length (fPoint pts) (litF [I (10 + k), I (50 - (k / 2)), I (3 * k)] 3)))] [inR .i64 (k + 1)] (by kernel_rfl) ⟨(inR_i64 (by omega) (by omega)), trivial⟩ ?_
     refine xe_weak [(730, 22)] (T := [(0, I n), (2, .ref 2 0), (3, .ref 3 0), (4, I (k + 1))]) (O := [(2, .box [nilA]), (3, .box [.arr 730]), (730, .arr 3 ((pts ++ [(Point.mk (10 + k) (50 - (k / 2)) (3 * k))]).length) (fPoint (pts ++ [(Point.mk (10 + k) (50 - (k / 2)) (3 * k))])))]) rfl (⟨.inl rfl, .inl rfl, .inl rfl, .inl rfl, trivial⟩) (⟨.inl rfl, .inl rfl, .inr ⟨rfl, (by first | rfl | (simp; done) | (simp; omega) | omega), fun i hi => .inl (cat_snoc (enc := cPoint) (xs := pts) rfl i hi)⟩, trivial⟩) (xe_again ((k + 1), (pts ++ [(Point.mk (10 + k) (50 - (k / 2)) (3 * k))])) rfl (show (0 ≤ (k + 1) ∧ ((k + 1) ≤ n ∨ (k + 1) = 0)) ∧ (((pts ++ [(Point.mk (10 + k) (50 - (k / 2)) (3 * k))]).length : Int) = (k + 1)) ∧ True from ⟨(by omega), (by simp; omega), trivial⟩) (by show ((n - (k + 1)).toNat : Nat) < (n - k).toNat; omega))
    ·refine x_reg [(2, .dec false)] [0, 2, 3, 4, 8] [2, 3, 730] [I n, .ref 2 0, .ref 3 0, I k, Bv false] [some (.box [nilA]), some (.box [.arr 730]), some (.arr 3 pts.length (fPoint pts))] [¬ (k < n)] (by kernel_rfl) ⟨h1, trivial⟩ ?_
     refine xe_then ?_
     refine x_false rfl ?_
     refine x_exit ?_
     refine xe_exit_then ?_
     refine xe_loop_exit ?_
     refine xe_exit_same ?_
     refine xe_then ?_
     refine x_seq ?_
     refine x_reg [] [2] [2, 730] [.ref 2 0] [some (.box [.arr 730]), some (.arr 3 pts.length (fPoint pts))] [] (by kernel_rfl) trivial ?_
     refine xe_then ?_
     refine x_ret ?_
     refine xe_end (Stroke.mk pts) (show (((Stroke.mk pts).Points.length : Int) = max 0 n) ∧ (True) from ⟨(by (try simp only); omega), trivial⟩) (trivial) (.agg [.arr 730]) (by kernel_rfl) (.inr ⟨⟨(fun _ => rfl), rfl, rfl, fun i _ => .inl rfl⟩, rfl⟩) (fun _ => rfl) (fun _ => (by simp [tagged, taggedL, tagPoint]))
  obtain ⟨v, ⟨hh0, _⟩, hc⟩ := hh
  exact ⟨v, hh0, hc⟩


-- spec.l02Bent
theorem l02Bent_ok (s : l00Src) (hs : okSrc s) (ha : s.atx ≤ 3999999999999994000) : ∃ (v : Ink) (s' : l00Src), (okSrc s') ∧ (s'.code = s.code) ∧ (s.atx + 0 ≤ s'.atx ∧ s'.atx ≤ s.atx + 3200) ∧ CallOK Tryz.prog 89 [.ref 7001 0] (lookO [(7001, bxl00Src s)]) true (.agg [slStroke true v.Strokes]) (lookO [(7001, bxl00Src s')]) := by
  have hh : ∃ r : Ink × l00Src, ((okSrc r.2) ∧ (r.2.code = s.code) ∧ (s.atx + 0 ≤ r.2.atx ∧ r.2.atx ≤ s.atx + 3200) ∧ (True)) ∧ CallOK Tryz.prog 89 [.ref 7001 0] (lookO [(7001, bxl00Src s)]) true (.agg [slStroke true r.1.Strokes]) (lookO [(7001, bxl00Src r.2)]) := by
    refine fn_okX (Φ := fun r : Ink × l00Src => (okSrc r.2) ∧ (r.2.code = s.code) ∧ (s.atx + 0 ≤ r.2.atx ∧ r.2.atx ≤ s.atx + 3200) ∧ (True)) [(7001, bxl00Src s)] (fun r => [(7001, bxl00Src r.2)]) (fn := Tryz.f89) (nt := 96) Tryz.func89 rfl rfl (args := [.ref 7001 0]) rfl (allcons (.inr trivial) allnil) (res := fun r => .agg [slStroke true r.1.Strokes]) ?_
    refine x_seq ?_
    refine x_reg [(0, .new 2)] [0, 2] [2, 7001] [.ref 7001 0, .ref 2 0] [some (.box [nilA]), some (bxl00Src s)] [] (by kernel_rfl) trivial ?_
    refine xe_then ?_
    refine x_seq ?_
    obtain ⟨s'_1, ss_1, hx1_0, hx1_1, hx1_2, hx1_3, hx1_4, hc1⟩ := l02Draw_ok s 5 (by first | assumption | (simp only [okSrc] at *; simp_all; done)) (by omega) (by omega)
    refine x_reg [(1, .lend [(7001, bxl00Src s, bxl00Src s'_1)] [(8011, .oar [8012] 1 ss_1.length (oStroke 8012 ss_1)), (8012, .fam ss_1.length 3 (mStroke ss_1) (gStroke ss_1))] [(true, .ref 7001 0), (true, I 5)] false (.agg [.arr 8011])), (2, .new 3)] [0, 2, 3] [2, 3, 7001, 8011, 8012] [.ref 7001 0, .ref 2 0, .ref 3 0] [some (.box [nilA]), some (.box [.arr 8011]), some (bxl00Src s'_1), some (.oar [8012] 1 ss_1.length (oStroke 8012 ss_1)), some (.fam ss_1.length 3 (mStroke ss_1) (gStroke ss_1))] [CallOK Tryz.prog 109 [.ref 7001 0, I 5] (lookO [(7001, bxl00Src s)]) false (.agg [.arr 8011]) (lookO [(7001, bxl00Src s'_1), (8011, .oar [8012] 1 ss_1.length (oStroke 8012 ss_1)), (8012, .fam ss_1.length 3 (mStroke ss_1) (gStroke ss_1))]) ∧ ((.ref 7001 0 : AV) = .ref 7001 0) ∧ ((I 5 : AV) = I 5) ∧ (((bxl00Src s : Ob) = bxl00Src s ∨ obLe noOb true (bxl00Src s) (bxl00Src s)) ∧ taggedO false (bxl00Src s)) ∧ True] (by kernel_rfl) ⟨⟨hc1, rfl, rfl, ⟨.inl rfl, (by simp [taggedO, taggedL, tagged, tagU8])⟩, trivial⟩, trivial⟩ ?_
    refine xe_then ?_
    refine x_seq ?_
    refine x_reg [] [0, 2, 3, 4] [2, 3, 7001, 8011, 8012] [.ref 7001 0, .ref 2 0, .ref 3 0, I (ss_1.length : Int)] [some (.box [nilA]), some (.box [.arr 8011]), some (bxl00Src s'_1), some (.oar [8012] 1 ss_1.length (oStroke 8012 ss_1)), some (.fam ss_1.length 3 (mStroke ss_1) (gStroke ss_1))] [] (by kernel_rfl) trivial ?_
    refine xe_then ?_
    refine x_seq ?_
    refine x_seq ?_
    obtain ⟨v_2, s'_2, hx2_0, hx2_1, hx2_2, hx2_3, hc2⟩ := pick_ok s'_1 20 (by first | assumption | (simp only [okSrc] at *; simp_all; done)) (by omega)
    refine x_reg [(1, .lend [(7001, bxl00Src s'_1, bxl00Src s'_2)] [] [(true, .ref 7001 0), (true, I 20)] true (I v_2))] [0, 2, 3, 4, 17] [2, 3, 7001, 8011, 8012] [.ref 7001 0, .ref 2 0, .ref 3 0, I (ss_1.length : Int), I v_2] [some (.box [nilA]), some (.box [.arr 8011]), some (bxl00Src s'_2), some (.oar [8012] 1 ss_1.length (oStroke 8012 ss_1)), some (.fam ss_1.length 3 (mStroke ss_1) (gStroke ss_1))] [CallOK Tryz.prog 39 [.ref 7001 0, I 20] (lookO [(7001, bxl00Src s'_1)]) true (I v_2) (lookO [(7001, bxl00Src s'_2)]) ∧ ((.ref 7001 0 : AV) = .ref 7001 0) ∧ ((I 20 : AV) = I 20) ∧ (((bxl00Src s'_1 : Ob) = bxl00Src s'_1 ∨ obLe noOb true (bxl00Src s'_1) (bxl00Src s'_1)) ∧ taggedO false (bxl00Src s'_1)) ∧ True] (by kernel_rfl) ⟨⟨hc2, rfl, rfl, ⟨.inl rfl, (by simp [taggedO, taggedL, tagged, tagU8])⟩, trivial⟩, trivial⟩ ?_
    refine xe_then ?_
    refine x_block ?_
    refine x_seq ?_
    by_cases h1 : v_2 = 0
    ·refine x_reg [(0, .dec true)] [0, 2, 3, 4, 17, 18] [2, 3, 7001, 8011, 8012] [.ref 7001 0, .ref 2 0, .ref 3 0, I (ss_1.length : Int), I v_2, Bv true] [some (.box [nilA]), some (.box [.arr 8011]), some (bxl00Src s'_2), some (.oar [8012] 1 ss_1.length (oStroke 8012 ss_1)), some (.fam ss_1.length 3 (mStroke ss_1) (gStroke ss_1))] [v_2 = 0] (by kernel_rfl) ⟨h1, trivial⟩ ?_
     refine xe_then ?_
     refine x_true rfl ?_
     refine x_reg [(3, .new 23), (4, .new 24)] [2, 3] [2, 3, 24, 7001, 8012] [.ref 2 0, .ref 3 0] [some (.box [nilA]), some (.box [.arr 24]), some (.oar [8012] 1 (ss_1.length + 1) (catF ss_1.length (oStroke 8012 ss_1) (litF [nilA] 1))), some (bxl00Src s'_2), some (.fam ss_1.length 3 (mStroke ss_1) (gStroke ss_1))] [(ss_1.length + 1) * 24 ≤ 140737488355328] (by kernel_rfl) ⟨(by omega), trivial⟩ ?_
     refine xe_block 0 ?_
     refine xe_then ?_
     refine x_seq ?_
     refine x_reg [] [2] [2, 24, 7001, 8012] [.ref 2 0] [some (.box [.arr 24]), some (.oar [8012] 1 (ss_1.length + 1) (catF ss_1.length (oStroke 8012 ss_1) (litF [nilA] 1))), some (bxl00Src s'_2), some (.fam ss_1.length 3 (mStroke ss_1) (gStroke ss_1))] [] (by kernel_rfl) trivial ?_
     refine xe_then ?_
     refine x_ret ?_
     refine xe_end ((Ink.mk (ss_1 ++ [(Stroke.mk ([] : List Point))])), s'_2) (show (okSrc s'_2) ∧ (s'_2.code = s.code) ∧ (s.atx + 0 ≤ s'_2.atx ∧ s'_2.atx ≤ s.atx + 3200) ∧ (True) from ⟨(by first | omega | assumption | rfl | (simp; done) | (simp; omega) | (simp_all; done)), (by first | omega | assumption | rfl | (simp; done) | (simp; omega) | (simp_all; done)), (by first | omega | assumption | rfl | (simp; done) | (simp; omega) | (simp_all; done)), trivial⟩) (⟨.inl rfl, trivial⟩) (.agg [.arr 24]) (by kernel_rfl) (.inr ⟨⟨(fun _ => rfl), rfl, (by simp), olecatStroke _ _ (Stroke.mk ([] : List Point)) rfl ⟨⟨rfl, rfl⟩, rfl⟩⟩, rfl⟩) (fun _ => rfl) (fun _ => (by simp [tagged, taggedL, tagStroke]))
    ·refine x_reg [(0, .dec false)] [0, 2, 3, 4, 17, 18] [2, 3, 7001, 8011, 8012] [.ref 7001 0, .ref 2 0, .ref 3 0, I (ss_1.length : Int), I v_2, Bv false] [some (.box [nilA]), some (.box [.arr 8011]), some (bxl00Src s'_2), some (.oar [8012] 1 ss_1.length (oStroke 8012 ss_1)), some (.fam ss_1.length 3 (mStroke ss_1) (gStroke ss_1))] [¬ (v_2 = 0)] (by kernel_rfl) ⟨h1, trivial⟩ ?_
     refine xe_then ?_
     refine x_false rfl ?_
     refine x_seq ?_
     by_cases h2 : v_2 = 1
     ·refine x_reg [(0, .dec true)] [0, 2, 3, 4, 17, 26] [2, 3, 7001, 8011, 8012] [.ref 7001 0, .ref 2 0, .ref 3 0, I (ss_1.length : Int), I v_2, Bv true] [some (.box [nilA]), some (.box [.arr 8011]), some (bxl00Src s'_2), some (.oar [8012] 1 ss_1.length (oStroke 8012 ss_1)), some (.fam ss_1.length 3 (mStroke ss_1) (gStroke ss_1))] [v_2 = 1] (by kernel_rfl) ⟨h2, trivial⟩ ?_
      refine xe_then ?_
      refine x_true rfl ?_
      refine x_seq ?_
      by_cases h3 : 0 < (ss_1.length : Int)
      ·refine x_reg [(1, .dec true)] [0, 2, 3, 4, 29] [2, 3, 7001, 8011, 8012] [.ref 7001 0, .ref 2 0, .ref 3 0, I (ss_1.length : Int), Bv true] [some (.box [nilA]), some (.box [.arr 8011]), some (bxl00Src s'_2), some (.oar [8012] 1 ss_1.length (oStroke 8012 ss_1)), some (.fam ss_1.length 3 (mStroke ss_1) (gStroke ss_1))] [0 < (ss_1.length : Int)] (by kernel_rfl) ⟨h3, trivial⟩ ?_
       refine xe_then ?_
       refine x_true rfl ?_
       refine x_seq ?_
       obtain ⟨v_3, s'_3, hx3_0, hx3_1, hx3_2, hx3_3, hc3⟩ := pick_ok s'_2 (ss_1.length : Int) (by first | assumption | (simp only [okSrc] at *; simp_all; done)) (by omega)
       have hrow := hx1_4 _ (at_mem (xs := ss_1) (i := v_3.toNat) (by omega))
       refine x_reg [(2, .lend [(7001, bxl00Src s'_2, bxl00Src s'_3)] [] [(true, .ref 7001 0), (true, I (ss_1.length : Int))] true (I v_3))] [0, 2, 3, 5] [2, 3, 7001, 8011, 8012] [.ref 7001 0, .ref 2 0, .ref 3 0, I v_3] [some (.box [nilA]), some (.box [.arr 8011]), some (bxl00Src s'_3), some (.oar [8012] 1 ss_1.length (oStroke 8012 ss_1)), some (.fam ss_1.length 3 (mStroke ss_1) (gStroke ss_1))] [CallOK Tryz.prog 39 [.ref 7001 0, I (ss_1.length : Int)] (lookO [(7001, bxl00Src s'_2)]) true (I v_3) (lookO [(7001, bxl00Src s'_3)]) ∧ ((.ref 7001 0 : AV) = .ref 7001 0) ∧ ((I (ss_1.length : Int) : AV) = I (ss_1.length : Int)) ∧ (((bxl00Src s'_2 : Ob) = bxl00Src s'_2 ∨ obLe noOb true (bxl00Src s'_2) (bxl00Src s'_2)) ∧ taggedO false (bxl00Src s'_2)) ∧ True] (by kernel_rfl) ⟨⟨hc3, rfl, rfl, ⟨.inl rfl, (by simp [taggedO, taggedL, tagged, tagU8])⟩, trivial⟩, trivial⟩ ?_
       refine xe_then ?_
       refine x_seq ?_
       refine x_reg [] [0, 2, 3, 6] [2, 3, 7001, 8011, 8012] [.ref 7001 0, .ref 2 0, .ref 3 0, .relt 8012 v_3.toNat 3 0 0] [some (.box [nilA]), some (.box [.arr 8011]), some (bxl00Src s'_3), some (.oar [8012] 1 ss_1.length (oStroke 8012 ss_1)), some (.fam ss_1.length 3 (mStroke ss_1) (gStroke ss_1))] [(0 : Int) ≤ v_3 ∧ v_3 < (ss_1.length : Int), v_3.toNat < ss_1.length, v_3.toNat < ss_1.length ∧ (0 : Int) ≤ 0 ∧ 0 < ((((at_ ss_1 v_3.toNat).Points).length) : Int)] (by kernel_rfl) ⟨⟨(by omega), (by omega)⟩, (by omega), ⟨(by omega), (by omega), (by omega)⟩, trivial⟩ ?_
       refine xe_then ?_
       obtain ⟨v_4, s'_4, hx4_0, hx4_1, hx4_2, hx4_3, hc4⟩ := among_ok s'_3 ([(-1), 4095, 4096]) (by first | assumption | (simp only [okSrc] at *; simp_all; done)) (by omega) (by simp)
       refine x_reg [(2, .new 42), (3, .lend [(7001, bxl00Src s'_3, bxl00Src s'_4)] [] [(true, .ref 7001 0), (false, slI false ([(-1), 4095, 4096]))] true (I v_4))] [2, 3] [2, 3, 7001, 8011, 8012] [.ref 2 0, .ref 3 0] [some (.box [nilA]), some (.box [.arr 8011]), some (bxl00Src s'_4), some (.oar [8012] 1 ss_1.length (oStroke 8012 ss_1)), some (.fam ss_1.length 3 (mStroke ss_1) (fun q => bif Nat.beq q v_3.toNat then (fun q => bif Nat.beq q 0 then [I v_4, I ((at_ ((at_ ss_1 v_3.toNat).Points) 0).Y), I ((at_ ((at_ ss_1 v_3.toNat).Points) 0).T)] else (gStroke ss_1) v_3.toNat q) else (gStroke ss_1) q))] [CallOK Tryz.prog 42 [.ref 7001 0, slI false ([(-1), 4095, 4096])] (lookO [(7001, bxl00Src s'_3)]) true (I v_4) (lookO [(7001, bxl00Src s'_4)]) ∧ ((.ref 7001 0 : AV) = .ref 7001 0) ∧ ((false = true → true = true) ∧ 1 = 1 ∧ 3 = (([(-1), 4095, 4096]).length) ∧ ∀ i, i < (([(-1), 4095, 4096]).length) → (litF [I (-1), I 4095, I 4096] 1) i = (fI ([(-1), 4095, 4096])) i ∨ (AV.idsL ((fI ([(-1), 4095, 4096])) i) = [] ∧ leL (fun _ => none) false ((litF [I (-1), I 4095, I 4096] 1) i) ((fI ([(-1), 4095, 4096])) i))) ∧ (((bxl00Src s'_3 : Ob) = bxl00Src s'_3 ∨ obLe noOb true (bxl00Src s'_3) (bxl00Src s'_3)) ∧ taggedO false (bxl00Src s'_3)) ∧ True, v_3.toNat < ss_1.length ∧ 0 < ((at_ ss_1 v_3.toNat).Points).length] (by kernel_rfl) ⟨⟨hc4, rfl, ⟨(fun h => by cases h), rfl, (by first | rfl | (simp; done) | (simp; omega) | omega), fun i hi => .inl (match i, hi with | 0, _ => rfl | 1, _ => rfl | 2, _ => rfl | (i + 3), h => absurd h (by simp))⟩, ⟨.inl rfl, (by simp [taggedO, taggedL, tagged, tagU8])⟩, trivial⟩, ⟨(by omega), (by omega)⟩, trivial⟩ ?_
       refine xe_block 0 ?_
       refine xe_then ?_
       refine x_seq ?_
       refine x_weak [] (T := [(2, .ref 2 0), (3, .ref 3 0)]) (O := [(2, .box [nilA]), (3, .box [.arr 8011]), (7001, bxl00Src s'_4), (8011, .oar [8012] 1 ((ss_1.set v_3.toNat (Stroke.withPoints (at_ ss_1 v_3.toNat) (((at_ ss_1 v_3.toNat).Points).set 0 (Point.mk v_4 ((at_ ((at_ ss_1 v_3.toNat).Points) 0).Y) ((at_ ((at_ ss_1 v_3.toNat).Points) 0).T))))).length) (oStroke 8012 (ss_1.set v_3.toNat (Stroke.withPoints (at_ ss_1 v_3.toNat) (((at_ ss_1 v_3.toNat).Points).set 0 (Point.mk v_4 ((at_ ((at_ ss_1 v_3.toNat).Points) 0).Y) ((at_ ((at_ ss_1 v_3.toNat).Points) 0).T))))))), (8012, .fam (ss_1.set v_3.toNat (Stroke.withPoints (at_ ss_1 v_3.toNat) (((at_ ss_1 v_3.toNat).Points).set 0 (Point.mk v_4 ((at_ ((at_ ss_1 v_3.toNat).Points) 0).Y) ((at_ ((at_ ss_1 v_3.toNat).Points) 0).T))))).length 3 (mStroke (ss_1.set v_3.toNat (Stroke.withPoints (at_ ss_1 v_3.toNat) (((at_ ss_1 v_3.toNat).Points).set 0 (Point.mk v_4 ((at_ ((at_ ss_1 v_3.toNat).Points) 0).Y) ((at_ ((at_ ss_1 v_3.toNat).Points) 0).T)))))) (gStroke (ss_1.set v_3.toNat (Stroke.withPoints (at_ ss_1 v_3.toNat) (((at_ ss_1 v_3.toNat).Points).set 0 (Point.mk v_4 ((at_ ((at_ ss_1 v_3.toNat).Points) 0).Y) ((at_ ((at_ ss_1 v_3.toNat).Points) 0).T)))))))]) rfl (⟨.inl rfl, .inl rfl, trivial⟩) (⟨.inl rfl, .inl rfl, .inl rfl, .inr ⟨rfl, rfl, (by first | rfl | (simp; done) | omega), fun i_ hi_ => .inl (osetStroke 8012 v_3.toNat ss_1 (((at_ ss_1 v_3.toNat).Points).set 0 (Point.mk v_4 ((at_ ((at_ ss_1 v_3.toNat).Points) 0).Y) ((at_ ((at_ ss_1 v_3.toNat).Points) 0).T))) i_)⟩, .inr (fsetStroke (P := v_3.toNat) (k := 0) ((by omega)) ((by omega)) (by simp only [Nat.beq_refl, cond_true]; try rfl) (by intro i hi; simp only [Nat.beq_refl, cond_true, beq_ne hi, cond_false]; try rfl) (by intro p hp; simp only [beq_ne hp, cond_false])), trivial⟩) ?_
       refine x_reg [] [2] [2, 7001, 8011, 8012] [.ref 2 0] [some (.box [.arr 8011]), some (bxl00Src s'_4), some (.oar [8012] 1 ((ss_1.set v_3.toNat (Stroke.withPoints (at_ ss_1 v_3.toNat) (((at_ ss_1 v_3.toNat).Points).set 0 (Point.mk v_4 ((at_ ((at_ ss_1 v_3.toNat).Points) 0).Y) ((at_ ((at_ ss_1 v_3.toNat).Points) 0).T))))).length) (oStroke 8012 (ss_1.set v_3.toNat (Stroke.withPoints (at_ ss_1 v_3.toNat) (((at_ ss_1 v_3.toNat).Points).set 0 (Point.mk v_4 ((at_ ((at_ ss_1 v_3.toNat).Points) 0).Y) ((at_ ((at_ ss_1 v_3.toNat).Points) 0).T))))))), some (.fam (ss_1.set v_3.toNat (Stroke.withPoints (at_ ss_1 v_3.toNat) (((at_ ss_1 v_3.toNat).Points).set 0 (Point.mk v_4 ((at_ ((at_ ss_1 v_3.toNat).Points) 0).Y) ((at_ ((at_ ss_1 v_3.toNat).Points) 0).T))))).length 3 (mStroke (ss_1.set v_3.toNat (Stroke.withPoints (at_ ss_1 v_3.toNat) (((at_ ss_1 v_3.toNat).Points).set 0 (Point.mk v_4 ((at_ ((at_ ss_1 v_3.toNat).Points) 0).Y) ((at_ ((at_ ss_1 v_3.toNat).Points) 0).T)))))) (gStroke (ss_1.set v_3.toNat (Stroke.withPoints (at_ ss_1 v_3.toNat) (((at_ ss_1 v_3.toNat).Points).set 0 (Point.mk v_4 ((at_ ((at_ ss_1 v_3.toNat).Points) 0).Y) ((at_ ((at_ ss_1 v_3.toNat).Points) 0).T)))))))] [] (by kernel_rfl) trivial ?_
       refine xe_then ?_
       refine x_ret ?_
       refine xe_end ((Ink.mk (ss_1.set v_3.toNat (Stroke.withPoints (at_ ss_1 v_3.toNat) (((at_ ss_1 v_3.toNat).Points).set 0 (Point.mk v_4 ((at_ ((at_ ss_1 v_3.toNat).Points) 0).Y) ((at_ ((at_ ss_1 v_3.toNat).Points) 0).T)))))), s'_4) (show (okSrc s'_4) ∧ (s'_4.code = s.code) ∧ (s.atx + 0 ≤ s'_4.atx ∧ s'_4.atx ≤ s.atx + 3200) ∧ (True) from ⟨(by first | omega | assumption | rfl | (simp; done) | (simp; omega) | (simp_all; done)), (by first | omega | assumption | rfl | (simp; done) | (simp; omega) | (simp_all; done)), (by first | omega | assumption | rfl | (simp; done) | (simp; omega) | (simp_all; done)), trivial⟩) (⟨.inl rfl, trivial⟩) (.agg [.arr 8011]) (by kernel_rfl) (.inr ⟨⟨(fun _ => rfl), rfl, rfl, oleStroke _ _ rfl⟩, rfl⟩) (fun _ => rfl) (fun _ => (by simp [tagged, taggedL, tagStroke]))
      ·refine x_reg [(1, .dec false)] [0, 2, 3, 4, 29] [2, 3, 7001, 8011, 8012] [.ref 7001 0, .ref 2 0, .ref 3 0, I (ss_1.length : Int), Bv false] [some (.box [nilA]), some (.box [.arr 8011]), some (bxl00Src s'_2), some (.oar [8012] 1 ss_1.length (oStroke 8012 ss_1)), some (.fam ss_1.length 3 (mStroke ss_1) (gStroke ss_1))] [¬ (0 < (ss_1.length : Int))] (by kernel_rfl) ⟨h3, trivial⟩ ?_
       refine xe_then ?_
       refine x_false rfl ?_
       refine x_skip ?_
       refine xe_block 0 ?_
       refine xe_then ?_
       refine x_seq ?_
       refine x_reg [] [2] [2, 7001, 8011, 8012] [.ref 2 0] [some (.box [.arr 8011]), some (bxl00Src s'_2), some (.oar [8012] 1 ss_1.length (oStroke 8012 ss_1)), some (.fam ss_1.length 3 (mStroke ss_1) (gStroke ss_1))] [] (by kernel_rfl) trivial ?_
       refine xe_then ?_
       refine x_ret ?_
       refine xe_end ((Ink.mk ss_1), s'_2) (show (okSrc s'_2) ∧ (s'_2.code = s.code) ∧ (s.atx + 0 ≤ s'_2.atx ∧ s'_2.atx ≤ s.atx + 3200) ∧ (True) from ⟨(by first | omega | assumption | rfl | (simp; done) | (simp; omega) | (simp_all; done)), (by first | omega | assumption | rfl | (simp; done) | (simp; omega) | (simp_all; done)), (by first | omega | assumption | rfl | (simp; done) | (simp; omega) | (simp_all; done)), trivial⟩) (⟨.inl rfl, trivial⟩) (.agg [.arr 8011]) (by kernel_rfl) (.inr ⟨⟨(fun _ => rfl), rfl, rfl, oleStroke _ _ rfl⟩, rfl⟩) (fun _ => rfl) (fun _ => (by simp [tagged, taggedL, tagStroke]))
     ·refine x_reg [(0, .dec false)] [0, 2, 3, 4, 17, 26] [2, 3, 7001, 8011, 8012] [.ref 7001 0, .ref 2 0, .ref 3 0, I (ss_1.length : Int), I v_2, Bv false] [some (.box [nilA]), some (.box [.arr 8011]), some (bxl00Src s'_2), some (.oar [8012] 1 ss_1.length (oStroke 8012 ss_1)), some (.fam ss_1.length 3 (mStroke ss_1) (gStroke ss_1))] [¬ (v_2 = 1)] (by kernel_rfl) ⟨h2, trivial⟩ ?_
      refine xe_then ?_
      refine x_false rfl ?_
      refine x_seq ?_
      by_cases h4 : v_2 = 2
      ·refine x_reg [(0, .dec true)] [0, 2, 3, 4, 17, 46] [2, 3, 7001, 8011, 8012] [.ref 7001 0, .ref 2 0, .ref 3 0, I (ss_1.length : Int), I v_2, Bv true] [some (.box [nilA]), some (.box [.arr 8011]), some (bxl00Src s'_2), some (.oar [8012] 1 ss_1.length (oStroke 8012 ss_1)), some (.fam ss_1.length 3 (mStroke ss_1) (gStroke ss_1))] [v_2 = 2] (by kernel_rfl) ⟨h4, trivial⟩ ?_
       refine xe_then ?_
       refine x_true rfl ?_
       refine x_seq ?_
       by_cases h5 : 0 < (ss_1.length : Int)
       ·refine x_reg [(1, .dec true)] [0, 2, 3, 4, 49] [2, 3, 7001, 8011, 8012] [.ref 7001 0, .ref 2 0, .ref 3 0, I (ss_1.length : Int), Bv true] [some (.box [nilA]), some (.box [.arr 8011]), some (bxl00Src s'_2), some (.oar [8012] 1 ss_1.length (oStroke 8012 ss_1)), some (.fam ss_1.length 3 (mStroke ss_1) (gStroke ss_1))] [0 < (ss_1.length : Int)] (by kernel_rfl) ⟨h5, trivial⟩ ?_
        refine xe_then ?_
        refine x_true rfl ?_
        refine x_seq ?_
        obtain ⟨v_5, s'_5, hx5_0, hx5_1, hx5_2, hx5_3, hc5⟩ := pick_ok s'_2 (ss_1.length : Int) (by first | assumption | (simp only [okSrc] at *; simp_all; done)) (by omega)
        have hrow := hx1_4 _ (at_mem (xs := ss_1) (i := v_5.toNat) (by omega))
        refine x_reg [(2, .lend [(7001, bxl00Src s'_2, bxl00Src s'_5)] [] [(true, .ref 7001 0), (true, I (ss_1.length : Int))] true (I v_5))] [0, 2, 3, 7] [2, 3, 7001, 8011, 8012] [.ref 7001 0, .ref 2 0, .ref 3 0, I v_5] [some (.box [nilA]), some (.box [.arr 8011]), some (bxl00Src s'_5), some (.oar [8012] 1 ss_1.length (oStroke 8012 ss_1)), some (.fam ss_1.length 3 (mStroke ss_1) (gStroke ss_1))] [CallOK Tryz.prog 39 [.ref 7001 0, I (ss_1.length : Int)] (lookO [(7001, bxl00Src s'_2)]) true (I v_5) (lookO [(7001, bxl00Src s'_5)]) ∧ ((.ref 7001 0 : AV) = .ref 7001 0) ∧ ((I (ss_1.length : Int) : AV) = I (ss_1.length : Int)) ∧ (((bxl00Src s'_2 : Ob) = bxl00Src s'_2 ∨ obLe noOb true (bxl00Src s'_2) (bxl00Src s'_2)) ∧ taggedO false (bxl00Src s'_2)) ∧ True] (by kernel_rfl) ⟨⟨hc5, rfl, rfl, ⟨.inl rfl, (by simp [taggedO, taggedL, tagged, tagU8])⟩, trivial⟩, trivial⟩ ?_
        refine xe_then ?_
        refine x_seq ?_
        refine x_reg [] [0, 2, 3, 8] [2, 3, 7001, 8011, 8012] [.ref 7001 0, .ref 2 0, .ref 3 0, .relt 8012 v_5.toNat 3 0 0] [some (.box [nilA]), some (.box [.arr 8011]), some (bxl00Src s'_5), some (.oar [8012] 1 ss_1.length (oStroke 8012 ss_1)), some (.fam ss_1.length 3 (mStroke ss_1) (gStroke ss_1))] [(0 : Int) ≤ v_5 ∧ v_5 < (ss_1.length : Int), v_5.toNat < ss_1.length, v_5.toNat < ss_1.length ∧ (0 : Int) ≤ 0 ∧ 0 < ((((at_ ss_1 v_5.toNat).Points).length) : Int)] (by kernel_rfl) ⟨⟨(by omega), (by omega)⟩, (by omega), ⟨(by omega), (by omega), (by omega)⟩, trivial⟩ ?_
        refine xe_then ?_
        obtain ⟨v_6, s'_6, hx6_0, hx6_1, hx6_2, hx6_3, hc6⟩ := among_ok s'_5 ([(-1), 0, 3600000, 3600001]) (by first | assumption | (simp only [okSrc] at *; simp_all; done)) (by omega) (by simp)
        refine x_reg [(2, .new 62), (3, .lend [(7001, bxl00Src s'_5, bxl00Src s'_6)] [] [(true, .ref 7001 0), (false, slI false ([(-1), 0, 3600000, 3600001]))] true (I v_6))] [2, 3] [2, 3, 7001, 8011, 8012] [.ref 2 0, .ref 3 0] [some (.box [nilA]), some (.box [.arr 8011]), some (bxl00Src s'_6), some (.oar [8012] 1 ss_1.length (oStroke 8012 ss_1)), some (.fam ss_1.length 3 (mStroke ss_1) (fun q => bif Nat.beq q v_5.toNat then (fun q => bif Nat.beq q 0 then [I ((at_ ((at_ ss_1 v_5.toNat).Points) 0).X), I ((at_ ((at_ ss_1 v_5.toNat).Points) 0).Y), I v_6] else (gStroke ss_1) v_5.toNat q) else (gStroke ss_1) q))] [CallOK Tryz.prog 42 [.ref 7001 0, slI false ([(-1), 0, 3600000, 3600001])] (lookO [(7001, bxl00Src s'_5)]) true (I v_6) (lookO [(7001, bxl00Src s'_6)]) ∧ ((.ref 7001 0 : AV) = .ref 7001 0) ∧ ((false = true → true = true) ∧ 1 = 1 ∧ 4 = (([(-1), 0, 3600000, 3600001]).length) ∧ ∀ i, i < (([(-1), 0, 3600000, 3600001]).length) → (litF [I (-1), I 0, I 3600000, I 3600001] 1) i = (fI ([(-1), 0, 3600000, 3600001])) i ∨ (AV.idsL ((fI ([(-1), 0, 3600000, 3600001])) i) = [] ∧ leL (fun _ => none) false ((litF [I (-1), I 0, I 3600000, I 3600001] 1) i) ((fI ([(-1), 0, 3600000, 3600001])) i))) ∧ (((bxl00Src s'_5 : Ob) = bxl00Src s'_5 ∨ obLe noOb true (bxl00Src s'_5) (bxl00Src s'_5)) ∧ taggedO false (bxl00Src s'_5)) ∧ True, v_5.toNat < ss_1.length ∧ 0 < ((at_ ss_1 v_5.toNat).Points).length] (by kernel_rfl) ⟨⟨hc6, rfl, ⟨(fun h => by cases h), rfl, (by first | rfl | (simp; done) | (simp; omega) | omega), fun i hi => .inl (match i, hi with | 0, _ => rfl | 1, _ => rfl | 2, _ => rfl | 3, _ => rfl | (i + 4), h => absurd h (by simp))⟩, ⟨.inl rfl, (by simp [taggedO, taggedL, tagged, tagU8])⟩, trivial⟩, ⟨(by omega), (by omega)⟩, trivial⟩ ?_
        refine xe_block 0 ?_
        refine xe_then ?_
        refine x_seq ?_
        refine x_weak [] (T := [(2, .ref 2 0), (3, .ref 3 0)]) (O := [(2, .box [nilA]), (3, .box [.arr 8011]), (7001, bxl00Src s'_6), (8011, .oar [8012] 1 ((ss_1.set v_5.toNat (Stroke.withPoints (at_ ss_1 v_5.toNat) (((at_ ss_1 v_5.toNat).Points).set 0 (Point.mk ((at_ ((at_ ss_1 v_5.toNat).Points) 0).X) ((at_ ((at_ ss_1 v_5.toNat).Points) 0).Y) v_6)))).length) (oStroke 8012 (ss_1.set v_5.toNat (Stroke.withPoints (at_ ss_1 v_5.toNat) (((at_ ss_1 v_5.toNat).Points).set 0 (Point.mk ((at_ ((at_ ss_1 v_5.toNat).Points) 0).X) ((at_ ((at_ ss_1 v_5.toNat).Points) 0).Y) v_6)))))), (8012, .fam (ss_1.set v_5.toNat (Stroke.withPoints (at_ ss_1 v_5.toNat) (((at_ ss_1 v_5.toNat).Points).set 0 (Point.mk ((at_ ((at_ ss_1 v_5.toNat).Points) 0).X) ((at_ ((at_ ss_1 v_5.toNat).Points) 0).Y) v_6)))).length 3 (mStroke (ss_1.set v_5.toNat (Stroke.withPoints (at_ ss_1 v_5.toNat) (((at_ ss_1 v_5.toNat).Points).set 0 (Point.mk ((at_ ((at_ ss_1 v_5.toNat).Points) 0).X) ((at_ ((at_ ss_1 v_5.toNat).Points) 0).Y) v_6))))) (gStroke (ss_1.set v_5.toNat (Stroke.withPoints (at_ ss_1 v_5.toNat) (((at_ ss_1 v_5.toNat).Points).set 0 (Point.mk ((at_ ((at_ ss_1 v_5.toNat).Points) 0).X) ((at_ ((at_ ss_1 v_5.toNat).Points) 0).Y) v_6))))))]) rfl (⟨.inl rfl, .inl rfl, trivial⟩) (⟨.inl rfl, .inl rfl, .inl rfl, .inr ⟨rfl, rfl, (by first | rfl | (simp; done) | omega), fun i_ hi_ => .inl (osetStroke 8012 v_5.toNat ss_1 (((at_ ss_1 v_5.toNat).Points).set 0 (Point.mk ((at_ ((at_ ss_1 v_5.toNat).Points) 0).X) ((at_ ((at_ ss_1 v_5.toNat).Points) 0).Y) v_6)) i_)⟩, .inr (fsetStroke (P := v_5.toNat) (k := 0) ((by omega)) ((by omega)) (by simp only [Nat.beq_refl, cond_true]; try rfl) (by intro i hi; simp only [Nat.beq_refl, cond_true, beq_ne hi, cond_false]; try rfl) (by intro p hp; simp only [beq_ne hp, cond_false])), trivial⟩) ?_
        refine x_reg [] [2] [2, 7001, 8011, 8012] [.ref 2 0] [some (.box [.arr 8011]), some (bxl00Src s'_6), some (.oar [8012] 1 ((ss_1.set v_5.toNat (Stroke.withPoints (at_ ss_1 v_5.toNat) (((at_ ss_1 v_5.toNat).Points).set 0 (Point.mk ((at_ ((at_ ss_1 v_5.toNat).Points) 0).X) ((at_ ((at_ ss_1 v_5.toNat).Points) 0).Y) v_6)))).length) (oStroke 8012 (ss_1.set v_5.toNat (Stroke.withPoints (at_ ss_1 v_5.toNat) (((at_ ss_1 v_5.toNat).Points).set 0 (Point.mk ((at_ ((at_ ss_1 v_5.toNat).Points) 0).X) ((at_ ((at_ ss_1 v_5.toNat).Points) 0).Y) v_6)))))), some (.fam (ss_1.set v_5.toNat (Stroke.withPoints (at_ ss_1 v_5.toNat) (((at_ ss_1 v_5.toNat).Points).set 0 (Point.mk ((at_ ((at_ ss_1 v_5.toNat).Points) 0).X) ((at_ ((at_ ss_1 v_5.toNat).Points) 0).Y) v_6)))).length 3 (mStroke (ss_1.set v_5.toNat (Stroke.withPoints (at_ ss_1 v_5.toNat) (((at_ ss_1 v_5.toNat).Points).set 0 (Point.mk ((at_ ((at_ ss_1 v_5.toNat).Points) 0).X) ((at_ ((at_ ss_1 v_5.toNat).Points) 0).Y) v_6))))) (gStroke (ss_1.set v_5.toNat (Stroke.withPoints (at_ ss_1 v_5.toNat) (((at_ ss_1 v_5.toNat).Points).set 0 (Point.mk ((at_ ((at_ ss_1 v_5.toNat).Points) 0).X) ((at_ ((at_ ss_1 v_5.toNat).Points) 0).Y) v_6))))))] [] (by kernel_rfl) trivial ?_
        refine xe_then ?_
        refine x_ret ?_
        refine xe_end ((Ink.mk (ss_1.set v_5.toNat (Stroke.withPoints (at_ ss_1 v_5.toNat) (((at_ ss_1 v_5.toNat).Points).set 0 (Point.mk ((at_ ((at_ ss_1 v_5.toNat).Points) 0).X) ((at_ ((at_ ss_1 v_5.toNat).Points) 0).Y) v_6))))), s'_6) (show (okSrc s'_6) ∧ (s'_6.code = s.code) ∧ (s.atx + 0 ≤ s'_6.atx ∧ s'_6.atx ≤ s.atx + 3200) ∧ (True) from ⟨(by first | omega | assumption | rfl | (simp; done) | (simp; omega) | (simp_all; done)), (by first | omega | assumption | rfl | (simp; done) | (simp; omega) | (simp_all; done)), (by first | omega | assumption | rfl | (simp; done) | (simp; omega) | (simp_all; done)), trivial⟩) (⟨.inl rfl, trivial⟩) (.agg [.arr 8011]) (by kernel_rfl) (.inr ⟨⟨(fun _ => rfl), rfl, rfl, oleStroke _ _ rfl⟩, rfl⟩) (fun _ => rfl) (fun _ => (by simp [tagged, taggedL, tagStroke]))
       ·refine x_reg [(1, .dec false)] [0, 2, 3, 4, 49] [2, 3, 7001, 8011, 8012] [.ref 7001 0, .ref 2 0, .ref 3 0, I (ss_1.length : Int), Bv false] [some (.box [nilA]), some (.box [.arr 8011]), some (bxl00Src s'_2), some (.oar [8012] 1 ss_1.length (oStroke 8012 ss_1)), some (.fam ss_1.length 3 (mStroke ss_1) (gStroke ss_1))] [¬ (0 < (ss_1.length : Int))] (by kernel_rfl) ⟨h5, trivial⟩ ?_
        refine xe_then ?_
        refine x_false rfl ?_
        refine x_skip ?_
        refine xe_block 0 ?_
        refine xe_then ?_
        refine x_seq ?_
        refine x_reg [] [2] [2, 7001, 8011, 8012] [.ref 2 0] [some (.box [.arr 8011]), some (bxl00Src s'_2), some (.oar [8012] 1 ss_1.length (oStroke 8012 ss_1)), some (.fam ss_1.length 3 (mStroke ss_1) (gStroke ss_1))] [] (by kernel_rfl) trivial ?_
        refine xe_then ?_
        refine x_ret ?_
        refine xe_end ((Ink.mk ss_1), s'_2) (show (okSrc s'_2) ∧ (s'_2.code = s.code) ∧ (s.atx + 0 ≤ s'_2.atx ∧ s'_2.atx ≤ s.atx + 3200) ∧ (True) from ⟨(by first | omega | assumption | rfl | (simp; done) | (simp; omega) | (simp_all; done)), (by first | omega | assumption | rfl | (simp; done) | (simp; omega) | (simp_all; done)), (by first | omega | assumption | rfl | (simp; done) | (simp; omega) | (simp_all; done)), trivial⟩) (⟨.inl rfl, trivial⟩) (.agg [.arr 8011]) (by kernel_rfl) (.inr ⟨⟨(fun _ => rfl), rfl, rfl, oleStroke _ _ rfl⟩, rfl⟩) (fun _ => rfl) (fun _ => (by simp [tagged, taggedL, tagStroke]))
      ·refine x_reg [(0, .dec false)] [0, 2, 3, 4, 17, 46] [2, 3, 7001, 8011, 8012] [.ref 7001 0, .ref 2 0, .ref 3 0, I (ss_1.length : Int), I v_2, Bv false] [some (.box [nilA]), some (.box [.arr 8011]), some (bxl00Src s'_2), some (.oar [8012] 1 ss_1.length (oStroke 8012 ss_1)), some (.fam ss_1.length 3 (mStroke ss_1) (gStroke ss_1))] [¬ (v_2 = 2)] (by kernel_rfl) ⟨h4, trivial⟩ ?_
       refine xe_then ?_
       refine x_false rfl ?_
       refine x_seq ?_
       by_cases h6 : v_2 = 3
       ·refine x_reg [(0, .dec true)] [0, 2, 3, 17, 66] [2, 3, 7001, 8011, 8012] [.ref 7001 0, .ref 2 0, .ref 3 0, I v_2, Bv true] [some (.box [nilA]), some (.box [.arr 8011]), some (bxl00Src s'_2), some (.oar [8012] 1 ss_1.length (oStroke 8012 ss_1)), some (.fam ss_1.length 3 (mStroke ss_1) (gStroke ss_1))] [v_2 = 3] (by kernel_rfl) ⟨h6, trivial⟩ ?_
        refine xe_then ?_
        refine x_true rfl ?_
        obtain ⟨v_7, s'_7, hx7_0, hx7_1, hx7_2, hx7_3, hc7⟩ := pick_ok s'_2 2 (by first | assumption | (simp only [okSrc] at *; simp_all; done)) (by omega)
        obtain ⟨v_8, hx8_0, hc8⟩ := l02Long_ok (60 + v_7) (by omega)
        refine x_reg [(1, .lend [(7001, bxl00Src s'_2, bxl00Src s'_7)] [] [(true, .ref 7001 0), (true, I 2)] true (I v_7)), (3, .call [(true, I (60 + v_7))] true (.agg [slPoint true v_8.Points])), (4, .new 72)] [2, 3] [2, 3, 72, 7001] [.ref 2 0, .ref 3 0] [some (.box [nilA]), some (.box [.arr 72]), some (.arr 1 1 (litF [slPoint true v_8.Points] 1)), some (bxl00Src s'_7)] [CallOK Tryz.prog 39 [.ref 7001 0, I 2] (lookO [(7001, bxl00Src s'_2)]) true (I v_7) (lookO [(7001, bxl00Src s'_7)]) ∧ ((.ref 7001 0 : AV) = .ref 7001 0) ∧ ((I 2 : AV) = I 2) ∧ (((bxl00Src s'_2 : Ob) = bxl00Src s'_2 ∨ obLe noOb true (bxl00Src s'_2) (bxl00Src s'_2)) ∧ taggedO false (bxl00Src s'_2)) ∧ True, inR .i64 (60 + v_7), Con Tryz.prog 110 [I (60 + v_7)] true (.agg [slPoint true v_8.Points]) ∧ ((I (60 + v_7) : AV) = I (60 + v_7)) ∧ True] (by kernel_rfl) ⟨⟨hc7, rfl, rfl, ⟨.inl rfl, (by simp [taggedO, taggedL, tagged, tagU8])⟩, trivial⟩, (inR_i64 (by omega) (by omega)), ⟨hc8, rfl, trivial⟩, trivial⟩ ?_
        refine xe_block 0 ?_
        refine xe_then ?_
        refine x_seq ?_
        refine x_reg [] [2] [2, 72, 7001] [.ref 2 0] [some (.box [.arr 72]), some (.arr 1 1 (litF [slPoint true v_8.Points] 1)), some (bxl00Src s'_7)] [] (by kernel_rfl) trivial ?_
        refine xe_then ?_
        refine x_ret ?_
        refine xe_end ((Ink.mk ([v_8])), s'_7) (show (okSrc s'_7) ∧ (s'_7.code = s.code) ∧ (s.atx + 0 ≤ s'_7.atx ∧ s'_7.atx ≤ s.atx + 3200) ∧ (True) from ⟨(by first | omega | assumption | rfl | (simp; done) | (simp; omega) | (simp_all; done)), (by first | omega | assumption | rfl | (simp; done) | (simp; omega) | (simp_all; done)), (by first | omega | assumption | rfl | (simp; done) | (simp; omega) | (simp_all; done)), trivial⟩) (⟨.inl rfl, trivial⟩) (.agg [.arr 72]) (by kernel_rfl) (.inr ⟨⟨(fun _ => rfl), rfl, (by first | rfl | (simp; done) | (simp; omega) | omega), fun i hi => .inl (match i, hi with | 0, _ => rfl | (i + 1), h => absurd h (by simp))⟩, rfl⟩) (fun _ => rfl) (fun _ => (by simp [tagged, taggedL, tagStroke]))
       ·refine x_reg [(0, .dec false)] [0, 2, 3, 17, 66] [2, 3, 7001, 8011, 8012] [.ref 7001 0, .ref 2 0, .ref 3 0, I v_2, Bv false] [some (.box [nilA]), some (.box [.arr 8011]), some (bxl00Src s'_2), some (.oar [8012] 1 ss_1.length (oStroke 8012 ss_1)), some (.fam ss_1.length 3 (mStroke ss_1) (gStroke ss_1))] [¬ (v_2 = 3)] (by kernel_rfl) ⟨h6, trivial⟩ ?_
        refine xe_then ?_
        refine x_false rfl ?_
        refine x_seq ?_
        by_cases h7 : v_2 = 4
        ·refine x_reg [(0, .dec true)] [0, 2, 3, 74] [2, 3, 7001, 8011, 8012] [.ref 7001 0, .ref 2 0, .ref 3 0, Bv true] [some (.box [nilA]), some (.box [.arr 8011]), some (bxl00Src s'_2), some (.oar [8012] 1 ss_1.length (oStroke 8012 ss_1)), some (.fam ss_1.length 3 (mStroke ss_1) (gStroke ss_1))] [v_2 = 4] (by kernel_rfl) ⟨h7, trivial⟩ ?_
         refine xe_then ?_
         refine x_true rfl ?_
         refine x_seq ?_
         refine x_reg [] [0, 2, 3] [2, 3, 7001] [.ref 7001 0, .ref 2 0, .ref 3 0] [some (.box [nilA]), some (.box [nilA]), some (bxl00Src s'_2)] [] (by kernel_rfl) trivial ?_
         refine xe_then ?_
         refine x_seq ?_
         obtain ⟨v_9, s'_9, hx9_0, hx9_1, hx9_2, hx9_3, hc9⟩ := pick_ok s'_2 2 (by first | assumption | (simp only [okSrc] at *; simp_all; done)) (by omega)
         refine x_reg [(1, .lend [(7001, bxl00Src s'_2, bxl00Src s'_9)] [] [(true, .ref 7001 0), (true, I 2)] true (I v_9))] [2, 3, 9] [2, 3, 7001] [.ref 2 0, .ref 3 0, I (16 + v_9)] [some (.box [nilA]), some (.box [nilA]), some (bxl00Src s'_9)] [CallOK Tryz.prog 39 [.ref 7001 0, I 2] (lookO [(7001, bxl00Src s'_2)]) true (I v_9) (lookO [(7001, bxl00Src s'_9)]) ∧ ((.ref 7001 0 : AV) = .ref 7001 0) ∧ ((I 2 : AV) = I 2) ∧ (((bxl00Src s'_2 : Ob) = bxl00Src s'_2 ∨ obLe noOb true (bxl00Src s'_2) (bxl00Src s'_2)) ∧ taggedO false (bxl00Src s'_2)) ∧ True, inR .i64 (16 + v_9)] (by kernel_rfl) ⟨⟨hc9, rfl, rfl, ⟨.inl rfl, (by simp [taggedO, taggedL, tagged, tagU8])⟩, trivial⟩, (inR_i64 (by omega) (by omega)), trivial⟩ ?_
         refine xe_then ?_
         refine x_seq ?_
         refine x_reg [] [2, 3, 9, 10] [2, 3, 7001] [.ref 2 0, .ref 3 0, I (16 + v_9), I 0] [some (.box [nilA]), some (.box [nilA]), some (bxl00Src s'_9)] [] (by kernel_rfl) trivial ?_
         refine xe_then ?_
         refine x_block ?_
         refine x_nilC 3 0 730 1 (fun _ => []) rfl (by kernel_rfl) ?_
         refine x_fam 8022 3 (fun _ => 0) (fun _ _ => []) (by kernel_rfl) ?_
         refine x_weak [] (T := [(2, .ref 2 0), (3, .ref 3 0), (9, I (16 + v_9)), (10, I 0)]) (O := [(2, .box [nilA]), (3, .box [.arr 730]), (730, .oar [8022] 1 (([] : List Stroke).length) (oStroke 8022 ([] : List Stroke))), (7001, bxl00Src s'_9), (8022, .fam ([] : List Stroke).length 3 (mStroke ([] : List Stroke)) (gStroke ([] : List Stroke)))]) rfl (⟨.inl rfl, .inl rfl, .inl rfl, .inl rfl, trivial⟩) (⟨.inl rfl, .inl rfl, .inr ⟨rfl, rfl, fun i hi => absurd hi (Nat.not_lt_zero _)⟩, .inl rfl, .inr ⟨rfl, rfl, fun p hp => absurd hp (Nat.not_lt_zero _)⟩, trivial⟩) ?_
         refine x_loop (X := Int × (List Stroke)) (fun x => mkS [(2, .ref 2 0), (3, .ref 3 0), (9, I (16 + v_9)), (10, I x.1)] [(2, .box [nilA]), (3, .box [.arr 730]), (730, .oar [8022] 1 x.2.length (oStroke 8022 x.2)), (7001, bxl00Src s'_9), (8022, .fam x.2.length 3 (mStroke x.2) (gStroke x.2))]) (fun x => (0 ≤ x.1 ∧ x.1 ≤ 20) ∧ ((x.2.length : Int) = x.1) ∧ True) (fun x => (100 - x.1).toNat) (0, ([] : List Stroke)) rfl (show (0 ≤ (0 : Int) ∧ (0 : Int) ≤ 20) ∧ ((([] : List Stroke).length : Int) = (0 : Int)) ∧ True from ⟨(by omega), (by rfl), trivial⟩) (fun x hI => ?_)
         obtain ⟨k, ss⟩ := x
         obtain ⟨hk0, hl0, _⟩ : (0 ≤ k ∧ k ≤ 20) ∧ ((ss.length : Int) = k) ∧ True := hI
         show XW _ _ _ _ (mkS [(2, .ref 2 0), (3, .ref 3 0), (9, I (16 + v_9)), (10, I k)] [(2, .box [nilA]), (3, .box [.arr 730]), (730, .oar [8022] 1 ss.length (oStroke 8022 ss)), (7001, bxl00Src s'_9), (8022, .fam ss.length 3 (mStroke ss) (gStroke ss))]) _ _
         refine x_seq ?_
         refine x_seq ?_
         by_cases h8 : k < (16 + v_9)
         ·refine x_reg [(2, .dec true)] [2, 3, 9, 10, 82] [2, 3, 730, 7001, 8022] [.ref 2 0, .ref 3 0, I (16 + v_9), I k, Bv true] [some (.box [nilA]), some (.box [.arr 730]), some (.oar [8022] 1 ss.length (oStroke 8022 ss)), some (bxl00Src s'_9), some (.fam ss.length 3 (mStroke ss) (gStroke ss))] [k < (16 + v_9)] (by kernel_rfl) ⟨h8, trivial⟩ ?_
          refine xe_then ?_
          refine x_true rfl ?_
          refine x_skip ?_
          refine xe_then ?_
          refine x_seq ?_
          refine x_block ?_
          refine x_reg [(5, .new 90), (7, .new 92), (8, .new 93)] [2, 3, 9, 10] [2, 3, 90, 93, 7001, 8022] [.ref 2 0, .ref 3 0, I (16 + v_9), I k] [some (.box [nilA]), some (.box [.arr 93]), some (.arr 3 1 (litF [I k, I 5, I k] 3)), some (.oar [8022, 90] 1 (ss.length + 1) (catF ss.length (oStroke 8022 ss) (litF [.arr 90] 1))), some (bxl00Src s'_9), some (.fam ss.length 3 (mStroke ss) (gStroke ss))] [(ss.length + 1) * 24 ≤ 140737488355328] (by kernel_rfl) ⟨(by omega), trivial⟩ ?_
          refine xe_block 2 ?_
          refine xe_then ?_
          refine x_reg [] [2, 3, 9, 10] [2, 3, 90, 93, 7001, 8022] [.ref 2 0, .ref 3 0, I (16 + v_9), I (k + 1)] [some (.box [nilA]), some (.box [.arr 93]), some (.arr 3 1 (litF [I k, I 5, I k] 3)), some (.oar [8022, 90] 1 (ss.length + 1) (catF ss.length (oStroke 8022 ss) (litF [.arr 90] 1))), some (bxl00Src s'_9), some (.fam ss.length 3 (mStroke ss) (gStroke ss))] [inR .i64 (k + 1)] (by kernel_rfl) ⟨(inR_i64 (by omega) (by omega)), trivial⟩ ?_
          refine xe_join 90 8022 rfl rfl rfl ?_
          refine xe_weak [(730, 93)] (T := [(2, .ref 2 0), (3, .ref 3 0), (9, I (16 + v_9)), (10, I (k + 1))]) (O := [(2, .box [nilA]), (3, .box [.arr 730]), (730, .oar [8022] 1 ((ss ++ [(Stroke.mk ([(Point.mk k 5 k)]))]).length) (oStroke 8022 (ss ++ [(Stroke.mk ([(Point.mk k 5 k)]))]))), (7001, bxl00Src s'_9), (8022, .fam (ss ++ [(Stroke.mk ([(Point.mk k 5 k)]))]).length 3 (mStroke (ss ++ [(Stroke.mk ([(Point.mk k 5 k)]))])) (gStroke (ss ++ [(Stroke.mk ([(Point.mk k 5 k)]))])))]) rfl (⟨.inl rfl, .inl rfl, .inl rfl, .inl rfl, trivial⟩) (⟨.inl rfl, .inl rfl, .inr ⟨rfl, rfl, (by simp), fun i hi => .inl (ocatStroke rfl rfl rfl i hi)⟩, .inl rfl, .inr (fcatStroke (Stroke.mk ([(Point.mk k 5 k)])) (by first | rfl | (simp; done)) (fun i hi => (match i, hi with | 0, _ => rfl | (i + 1), h => absurd h (by simp)))), trivial⟩) (xe_again ((k + 1), (ss ++ [(Stroke.mk ([(Point.mk k 5 k)]))])) rfl (show (0 ≤ (k + 1) ∧ (k + 1) ≤ 20) ∧ (((ss ++ [(Stroke.mk ([(Point.mk k 5 k)]))]).length : Int) = (k + 1)) ∧ True from ⟨(by omega), (by simp; omega), trivial⟩) (by show ((100 - (k + 1)).toNat : Nat) < (100 - k).toNat; omega))
         ·refine x_reg [(2, .dec false)] [2, 3, 9, 10, 82] [2, 3, 730, 7001, 8022] [.ref 2 0, .ref 3 0, I (16 + v_9), I k, Bv false] [some (.box [nilA]), some (.box [.arr 730]), some (.oar [8022] 1 ss.length (oStroke 8022 ss)), some (bxl00Src s'_9), some (.fam ss.length 3 (mStroke ss) (gStroke ss))] [¬ (k < (16 + v_9))] (by kernel_rfl) ⟨h8, trivial⟩ ?_
          refine xe_then ?_
          refine x_false rfl ?_
          refine x_exit ?_
          refine xe_exit_then ?_
          refine xe_loop_exit ?_
          refine xe_exit_same ?_
          refine xe_block 0 ?_
          refine xe_then ?_
          refine x_seq ?_
          refine x_reg [] [2] [2, 730, 7001, 8022] [.ref 2 0] [some (.box [.arr 730]), some (.oar [8022] 1 ss.length (oStroke 8022 ss)), some (bxl00Src s'_9), some (.fam ss.length 3 (mStroke ss) (gStroke ss))] [] (by kernel_rfl) trivial ?_
          refine xe_then ?_
          refine x_ret ?_
          refine xe_end ((Ink.mk ss), s'_9) (show (okSrc s'_9) ∧ (s'_9.code = s.code) ∧ (s.atx + 0 ≤ s'_9.atx ∧ s'_9.atx ≤ s.atx + 3200) ∧ (True) from ⟨(by first | omega | assumption | rfl | (simp; done) | (simp; omega) | (simp_all; done)), (by first | omega | assumption | rfl | (simp; done) | (simp; omega) | (simp_all; done)), (by first | omega | assumption | rfl | (simp; done) | (simp; omega) | (simp_all; done)), trivial⟩) (⟨.inl rfl, trivial⟩) (.agg [.arr 730]) (by kernel_rfl) (.inr ⟨⟨(fun _ => rfl), rfl, rfl, oleStroke _ _ rfl⟩, rfl⟩) (fun _ => rfl) (fun _ => (by simp [tagged, taggedL, tagStroke]))
        ·refine x_reg [(0, .dec false)] [0, 2, 3, 74] [2, 3, 7001, 8011, 8012] [.ref 7001 0, .ref 2 0, .ref 3 0, Bv false] [some (.box [nilA]), some (.box [.arr 8011]), some (bxl00Src s'_2), some (.oar [8012] 1 ss_1.length (oStroke 8012 ss_1)), some (.fam ss_1.length 3 (mStroke ss_1) (gStroke ss_1))] [¬ (v_2 = 4)] (by kernel_rfl) ⟨h7, trivial⟩ ?_
         refine xe_then ?_
         refine x_false rfl ?_
         refine x_skip ?_
         refine xe_block 0 ?_
         refine xe_then ?_
         refine x_seq ?_
         refine x_reg [] [2] [2, 7001, 8011, 8012] [.ref 2 0] [some (.box [.arr 8011]), some (bxl00Src s'_2), some (.oar [8012] 1 ss_1.length (oStroke 8012 ss_1)), some (.fam ss_1.length 3 (mStroke ss_1) (gStroke ss_1))] [] (by kernel_rfl) trivial ?_
         refine xe_then ?_
         refine x_ret ?_
         refine xe_end ((Ink.mk ss_1), s'_2) (show (okSrc s'_2) ∧ (s'_2.code = s.code) ∧ (s.atx + 0 ≤ s'_2.atx ∧ s'_2.atx ≤ s.atx + 3200) ∧ (True) from ⟨(by first | omega | assumption | rfl | (simp; done) | (simp; omega) | (simp_all; done)), (by first | omega | assumption | rfl | (simp; done) | (simp; omega) | (simp_all; done)), (by first | omega | assumption | rfl | (simp; done) | (simp; omega) | (simp_all; done)), trivial⟩) (⟨.inl rfl, trivial⟩) (.agg [.arr 8011]) (by kernel_rfl) (.inr ⟨⟨(fun _ => rfl), rfl, rfl, oleStroke _ _ rfl⟩, rfl⟩) (fun _ => rfl) (fun _ => (by simp [tagged, taggedL, tagStroke]))
  obtain ⟨⟨v, s'⟩, ⟨hh0, hh1, hh2, _⟩, hc⟩ := hh
  exact ⟨v, s', hh0, hh1, hh2, hc⟩


-- spec.l05Stroke
theorem l05Stroke_ok (s : l00Src) (hs : okSrc s) (ha : s.atx ≤ 3999999999999992000) : ∃ (v : Stroke) (s' : l00Src), (okSrc s') ∧ (s'.code = s.code) ∧ (s.atx + 0 ≤ s'.atx ∧ s'.atx ≤ s.atx + 3600) ∧ CallOK Tryz.prog 60 [.ref 7001 0] (lookO [(7001, bxl00Src s)]) true (.agg [slPoint true v.Points]) (lookO [(7001, bxl00Src s')]) := by
  have hh : ∃ r : Stroke × l00Src, ((okSrc r.2) ∧ (r.2.code = s.code) ∧ (s.atx + 0 ≤ r.2.atx ∧ r.2.atx ≤ s.atx + 3600) ∧ (True)) ∧ CallOK Tryz.prog 60 [.ref 7001 0] (lookO [(7001, bxl00Src s)]) true (.agg [slPoint true r.1.Points]) (lookO [(7001, bxl00Src r.2)]) := by
    refine fn_okX (Φ := fun r : Stroke × l00Src => (okSrc r.2) ∧ (r.2.code = s.code) ∧ (s.atx + 0 ≤ r.2.atx ∧ r.2.atx ≤ s.atx + 3600) ∧ (True)) [(7001, bxl00Src s)] (fun r => [(7001, bxl00Src r.2)]) (fn := Tryz.f60) (nt := 55) Tryz.func60 rfl rfl (args := [.ref 7001 0]) rfl (allcons (.inr trivial) allnil) (res := fun r => .agg [slPoint true r.1.Points]) ?_
    refine x_seq ?_
    refine x_reg [(0, .new 2)] [0, 2] [2, 7001] [.ref 7001 0, .ref 2 0] [some (.box [nilA]), some (bxl00Src s)] [] (by kernel_rfl) trivial ?_
    refine xe_then ?_
    refine x_seq ?_
    refine x_reg [(1, .new 3)] [0, 2, 3] [2, 3, 7001] [.ref 7001 0, .ref 2 0, .ref 3 0] [some (.box [nilA]), some (.box [nilA]), some (bxl00Src s)] [] (by kernel_rfl) trivial ?_
    refine xe_then ?_
    refine x_seq ?_
    refine x_seq ?_
    obtain ⟨v_1, s'_1, hx1_0, hx1_1, hx1_2, hc1⟩ := one_ok s 12 (by first | assumption | (simp only [okSrc] at *; simp_all; done)) (by omega)
    rcases Bool.eq_false_or_eq_true v_1 with h1 | h1
    ·subst h1
     refine x_reg [(1, .lend [(7001, bxl00Src s, bxl00Src s'_1)] [] [(true, .ref 7001 0), (true, I 12)] true (Bv true))] [0, 2, 3, 10] [2, 3, 7001] [.ref 7001 0, .ref 2 0, .ref 3 0, Bv true] [some (.box [nilA]), some (.box [nilA]), some (bxl00Src s'_1)] [CallOK Tryz.prog 41 [.ref 7001 0, I 12] (lookO [(7001, bxl00Src s)]) true (Bv true) (lookO [(7001, bxl00Src s'_1)]) ∧ ((.ref 7001 0 : AV) = .ref 7001 0) ∧ ((I 12 : AV) = I 12) ∧ (((bxl00Src s : Ob) = bxl00Src s ∨ obLe noOb true (bxl00Src s) (bxl00Src s)) ∧ taggedO false (bxl00Src s)) ∧ True] (by kernel_rfl) ⟨⟨hc1, rfl, rfl, ⟨.inl rfl, (by simp [taggedO, taggedL, tagged, tagU8])⟩, trivial⟩, trivial⟩ ?_
     refine xe_then ?_
     refine x_true rfl ?_
     refine x_seq ?_
     obtain ⟨v_2, s'_2, hx2_0, hx2_1, hx2_2, hc2⟩ := l02Bent_ok s'_1 (by first | assumption | (simp only [okSrc] at *; simp_all; done)) (by omega)
     refine x_reg [(1, .lend [(7001, bxl00Src s'_1, bxl00Src s'_2)] [] [(true, .ref 7001 0)] true (.agg [slStroke true v_2.Strokes])), (2, .new 4)] [2, 3, 4] [2, 3, 4, 7001] [.ref 2 0, .ref 3 0, .ref 4 0] [some (.box [nilA]), some (.box [nilA]), some (.box [slStroke true v_2.Strokes]), some (bxl00Src s'_2)] [CallOK Tryz.prog 89 [.ref 7001 0] (lookO [(7001, bxl00Src s'_1)]) true (.agg [slStroke true v_2.Strokes]) (lookO [(7001, bxl00Src s'_2)]) ∧ ((.ref 7001 0 : AV) = .ref 7001 0) ∧ (((bxl00Src s'_1 : Ob) = bxl00Src s'_1 ∨ obLe noOb true (bxl00Src s'_1) (bxl00Src s'_1)) ∧ taggedO false (bxl00Src s'_1)) ∧ True] (by kernel_rfl) ⟨⟨hc2, rfl, ⟨.inl rfl, (by simp [taggedO, taggedL, tagged, tagU8])⟩, trivial⟩, trivial⟩ ?_
     refine xe_then ?_
     refine x_seq ?_
     refine x_seq ?_
     by_cases h2 : 0 < (v_2.Strokes.length : Int)
     ·refine x_reg [(3, .dec true)] [2, 3, 4, 16] [2, 3, 4, 7001] [.ref 2 0, .ref 3 0, .ref 4 0, Bv true] [some (.box [nilA]), some (.box [nilA]), some (.box [slStroke true v_2.Strokes]), some (bxl00Src s'_2)] [0 < (v_2.Strokes.length : Int)] (by kernel_rfl) ⟨h2, trivial⟩ ?_
      refine xe_then ?_
      refine x_true rfl ?_
      refine x_seq ?_
      refine x_reg [] [2] [2, 7001] [.ref 2 0] [some (.box [slPoint true ((at_ v_2.Strokes 0).Points)]), some (bxl00Src s'_2)] [(0 : Int) ≤ 0 ∧ 0 < (v_2.Strokes.length : Int)] (by kernel_rfl) ⟨⟨(by omega), (by omega)⟩, trivial⟩ ?_
      refine xe_then ?_
      refine x_ret ?_
      refine xe_ret_then (xe_ret_then ?_)
      refine xe_end ((at_ v_2.Strokes 0), s'_2) (show (okSrc s'_2) ∧ (s'_2.code = s.code) ∧ (s.atx + 0 ≤ s'_2.atx ∧ s'_2.atx ≤ s.atx + 3600) ∧ (True) from ⟨(by first | omega | assumption | rfl | (simp; done) | (simp; omega) | (simp_all; done)), (by first | omega | assumption | rfl | (simp; done) | (simp; omega) | (simp_all; done)), (by first | omega | assumption | rfl | (simp; done) | (simp; omega) | (simp_all; done)), trivial⟩) (⟨.inl rfl, trivial⟩) (.agg [slPoint true ((at_ v_2.Strokes 0).Points)]) (by kernel_rfl) (.inl rfl) (fun _ => rfl) (fun _ => (by simp [tagged, taggedL, tagPoint]))
     ·refine x_reg [(3, .dec false)] [2, 3, 4, 16] [2, 3, 4, 7001] [.ref 2 0, .ref 3 0, .ref 4 0, Bv false] [some (.box [nilA]), some (.box [nilA]), some (.box [slStroke true v_2.Strokes]), some (bxl00Src s'_2)] [¬ (0 < (v_2.Strokes.length : Int))] (by kernel_rfl) ⟨h2, trivial⟩ ?_
      refine xe_then ?_
      refine x_false rfl ?_
      refine x_skip ?_
      refine xe_then ?_
      refine x_seq ?_
      refine x_reg [] [2] [2, 7001] [.ref 2 0] [some (.box [nilA]), some (bxl00Src s'_2)] [] (by kernel_rfl) trivial ?_
      refine xe_then ?_
      refine x_ret ?_
      refine xe_ret_then ?_
      refine xe_end ((Stroke.mk ([] : List Point)), s'_2) (show (okSrc s'_2) ∧ (s'_2.code = s.code) ∧ (s.atx + 0 ≤ s'_2.atx ∧ s'_2.atx ≤ s.atx + 3600) ∧ (True) from ⟨(by first | omega | assumption | rfl | (simp; done) | (simp; omega) | (simp_all; done)), (by first | omega | assumption | rfl | (simp; done) | (simp; omega) | (simp_all; done)), (by first | omega | assumption | rfl | (simp; done) | (simp; omega) | (simp_all; done)), trivial⟩) (⟨.inl rfl, trivial⟩) (.agg [nilA]) (by kernel_rfl) (.inr ⟨⟨rfl, rfl⟩, rfl⟩) (fun _ => rfl) (fun _ => (by simp [tagged, taggedL, tagPoint]))
    ·subst h1
     refine x_reg [(1, .lend [(7001, bxl00Src s, bxl00Src s'_1)] [] [(true, .ref 7001 0), (true, I 12)] true (Bv false))] [0, 2, 3, 10] [2, 3, 7001] [.ref 7001 0, .ref 2 0, .ref 3 0, Bv false] [some (.box [nilA]), some (.box [nilA]), some (bxl00Src s'_1)] [CallOK Tryz.prog 41 [.ref 7001 0, I 12] (lookO [(7001, bxl00Src s)]) true (Bv false) (lookO [(7001, bxl00Src s'_1)]) ∧ ((.ref 7001 0 : AV) = .ref 7001 0) ∧ ((I 12 : AV) = I 12) ∧ (((bxl00Src s : Ob) = bxl00Src s ∨ obLe noOb true (bxl00Src s) (bxl00Src s)) ∧ taggedO false (bxl00Src s)) ∧ True] (by kernel_rfl) ⟨⟨hc1, rfl, rfl, ⟨.inl rfl, (by simp [taggedO, taggedL, tagged, tagU8])⟩, trivial⟩, trivial⟩ ?_
     refine xe_then ?_
     refine x_false rfl ?_
     refine x_skip ?_
     refine xe_then ?_
     refine x_seq ?_
     refine x_seq ?_
     obtain ⟨v_3, s'_3, hx3_0, hx3_1, hx3_2, hc3⟩ := one_ok s'_1 2 (by first | assumption | (simp only [okSrc] at *; simp_all; done)) (by omega)
     rcases Bool.eq_false_or_eq_true v_3 with h3 | h3
     ·subst h3
      refine x_reg [(1, .lend [(7001, bxl00Src s'_1, bxl00Src s'_3)] [] [(true, .ref 7001 0), (true, I 2)] true (Bv true))] [0, 2, 3, 23] [2, 3, 7001] [.ref 7001 0, .ref 2 0, .ref 3 0, Bv true] [some (.box [nilA]), some (.box [nilA]), some (bxl00Src s'_3)] [CallOK Tryz.prog 41 [.ref 7001 0, I 2] (lookO [(7001, bxl00Src s'_1)]) true (Bv true) (lookO [(7001, bxl00Src s'_3)]) ∧ ((.ref 7001 0 : AV) = .ref 7001 0) ∧ ((I 2 : AV) = I 2) ∧ (((bxl00Src s'_1 : Ob) = bxl00Src s'_1 ∨ obLe noOb true (bxl00Src s'_1) (bxl00Src s'_1)) ∧ taggedO false (bxl00Src s'_1)) ∧ True] (by kernel_rfl) ⟨⟨hc3, rfl, rfl, ⟨.inl rfl, (by simp [taggedO, taggedL, tagged, tagU8])⟩, trivial⟩, trivial⟩ ?_
      refine xe_then ?_
      refine x_true rfl ?_
      refine x_seq ?_
      obtain ⟨v_4, s'_4, hx4_0, hx4_1, hx4_2, hx4_3, hc4⟩ := pick_ok s'_3 60 (by first | assumption | (simp only [okSrc] at *; simp_all; done)) (by omega)
      obtain ⟨v_5, s'_5, hx5_0, hx5_1, hx5_2, hx5_3, hc5⟩ := pick_ok s'_4 60 (by first | assumption | (simp only [okSrc] at *; simp_all; done)) (by omega)
      obtain ⟨s'_6, pts_6, hx6_0, hx6_1, hx6_2, hx6_3, hx6_4, hc6⟩ := l02DrawStroke_ok s'_5 5 (300 + v_4) (300 + v_5) (by first | assumption | (simp only [okSrc] at *; simp_all; done)) (by omega) (by omega)
      refine x_reg [(2, .lend [(7001, bxl00Src s'_3, bxl00Src s'_4)] [] [(true, .ref 7001 0), (true, I 60)] true (I v_4)), (5, .lend [(7001, bxl00Src s'_4, bxl00Src s'_5)] [] [(true, .ref 7001 0), (true, I 60)] true (I v_5)), (7, .lend [(7001, bxl00Src s'_5, bxl00Src s'_6)] [(8001, .arr 3 pts_6.length (fPoint pts_6))] [(true, .ref 7001 0), (true, I 5), (true, I (300 + v_4)), (true, I (300 + v_5))] false (.agg [.arr 8001]))] [2] [2, 7001, 8001] [.ref 2 0] [some (.box [.arr 8001]), some (bxl00Src s'_6), some (.arr 3 pts_6.length (fPoint pts_6))] [CallOK Tryz.prog 39 [.ref 7001 0, I 60] (lookO [(7001, bxl00Src s'_3)]) true (I v_4) (lookO [(7001, bxl00Src s'_4)]) ∧ ((.ref 7001 0 : AV) = .ref 7001 0) ∧ ((I 60 : AV) = I 60) ∧ (((bxl00Src s'_3 : Ob) = bxl00Src s'_3 ∨ obLe noOb true (bxl00Src s'_3) (bxl00Src s'_3)) ∧ taggedO false (bxl00Src s'_3)) ∧ True, inR .i64 (300 + v_4), CallOK Tryz.prog 39 [.ref 7001 0, I 60] (lookO [(7001, bxl00Src s'_4)]) true (I v_5) (lookO [(7001, bxl00Src s'_5)]) ∧ ((.ref 7001 0 : AV) = .ref 7001 0) ∧ ((I 60 : AV) = I 60) ∧ (((bxl00Src s'_4 : Ob) = bxl00Src s'_4 ∨ obLe noOb true (bxl00Src s'_4) (bxl00Src s'_4)) ∧ taggedO false (bxl00Src s'_4)) ∧ True, inR .i64 (300 + v_5), CallOK Tryz.prog 90 [.ref 7001 0, I 5, I (300 + v_4), I (300 + v_5)] (lookO [(7001, bxl00Src s'_5)]) false (.agg [.arr 8001]) (lookO [(7001, bxl00Src s'_6), (8001, .arr 3 pts_6.length (fPoint pts_6))]) ∧ ((.ref 7001 0 : AV) = .ref 7001 0) ∧ ((I 5 : AV) = I 5) ∧ ((I (300 + v_4) : AV) = I (300 + v_4)) ∧ ((I (300 + v_5) : AV) = I (300 + v_5)) ∧ (((bxl00Src s'_5 : Ob) = bxl00Src s'_5 ∨ obLe noOb true (bxl00Src s'_5) (bxl00Src s'_5)) ∧ taggedO false (bxl00Src s'_5)) ∧ True] (by kernel_rfl) ⟨⟨hc4, rfl, rfl, ⟨.inl rfl, (by simp [taggedO, taggedL, tagged, tagU8])⟩, trivial⟩, (inR_i64 (by omega) (by omega)), ⟨hc5, rfl, rfl, ⟨.inl rfl, (by simp [taggedO, taggedL, tagged, tagU8])⟩, trivial⟩, (inR_i64 (by omega) (by omega)), ⟨hc6, rfl, rfl, rfl, rfl, ⟨.inl rfl, (by simp [taggedO, taggedL, tagged, tagU8])⟩, trivial⟩, trivial⟩ ?_
      refine xe_then ?_
      refine x_ret ?_
      refine xe_ret_then ?_
      refine xe_end ((Stroke.mk pts_6), s'_6) (show (okSrc s'_6) ∧ (s'_6.code = s.code) ∧ (s.atx + 0 ≤ s'_6.atx ∧ s'_6.atx ≤ s.atx + 3600) ∧ (True) from ⟨(by first | omega | assumption | rfl | (simp; done) | (simp; omega) | (simp_all; done)), (by first | omega | assumption | rfl | (simp; done) | (simp; omega) | (simp_all; done)), (by first | omega | assumption | rfl | (simp; done) | (simp; omega) | (simp_all; done)), trivial⟩) (⟨.inl rfl, trivial⟩) (.agg [.arr 8001]) (by kernel_rfl) (.inr ⟨⟨(fun _ => rfl), rfl, rfl, fun i _ => .inl rfl⟩, rfl⟩) (fun _ => rfl) (fun _ => (by simp [tagged, taggedL, tagPoint]))
     ·subst h3
      refine x_reg [(1, .lend [(7001, bxl00Src s'_1, bxl00Src s'_3)] [] [(true, .ref 7001 0), (true, I 2)] true (Bv false))] [0, 2, 3, 23] [2, 3, 7001] [.ref 7001 0, .ref 2 0, .ref 3 0, Bv false] [some (.box [nilA]), some (.box [nilA]), some (bxl00Src s'_3)] [CallOK Tryz.prog 41 [.ref 7001 0, I 2] (lookO [(7001, bxl00Src s'_1)]) true (Bv false) (lookO [(7001, bxl00Src s'_3)]) ∧ ((.ref 7001 0 : AV) = .ref 7001 0) ∧ ((I 2 : AV) = I 2) ∧ (((bxl00Src s'_1 : Ob) = bxl00Src s'_1 ∨ obLe noOb true (bxl00Src s'_1) (bxl00Src s'_1)) ∧ taggedO false (bxl00Src s'_1)) ∧ True] (by kernel_rfl) ⟨⟨hc3, rfl, rfl, ⟨.inl rfl, (by simp [taggedO, taggedL, tagged, tagU8])⟩, trivial⟩, trivial⟩ ?_
      refine xe_then ?_
      refine x_false rfl ?_
      refine x_skip ?_
      refine xe_then ?_
      refine x_seq ?_
      refine x_seq ?_
      obtain ⟨v_7, s'_7, hx7_0, hx7_1, hx7_2, hx7_3, hc7⟩ := pick_ok s'_3 7 (by first | assumption | (simp only [okSrc] at *; simp_all; done)) (by omega)
      refine x_reg [(1, .lend [(7001, bxl00Src s'_3, bxl00Src s'_7)] [] [(true, .ref 7001 0), (true, I 7)] true (I v_7))] [0, 2, 3, 5] [2, 3, 7001] [.ref 7001 0, .ref 2 0, .ref 3 0, I (1 + v_7)] [some (.box [nilA]), some (.box [nilA]), some (bxl00Src s'_7)] [CallOK Tryz.prog 39 [.ref 7001 0, I 7] (lookO [(7001, bxl00Src s'_3)]) true (I v_7) (lookO [(7001, bxl00Src s'_7)]) ∧ ((.ref 7001 0 : AV) = .ref 7001 0) ∧ ((I 7 : AV) = I 7) ∧ (((bxl00Src s'_3 : Ob) = bxl00Src s'_3 ∨ obLe noOb true (bxl00Src s'_3) (bxl00Src s'_3)) ∧ taggedO false (bxl00Src s'_3)) ∧ True, inR .i64 (1 + v_7)] (by kernel_rfl) ⟨⟨hc7, rfl, rfl, ⟨.inl rfl, (by simp [taggedO, taggedL, tagged, tagU8])⟩, trivial⟩, (inR_i64 (by omega) (by omega)), trivial⟩ ?_
      refine xe_then ?_
      refine x_block ?_
      refine x_nilC 3 0 730 3 (fun _ => []) rfl (by kernel_rfl) ?_
      refine x_weak [] (T := [(0, .ref 7001 0), (2, .ref 2 0), (3, .ref 3 0), (5, I (1 + v_7))]) (O := [(2, .box [nilA]), (3, .box [.arr 730]), (730, .arr 3 (([] : List Point).length) (fPoint ([] : List Point))), (7001, bxl00Src s'_7)]) rfl (⟨.inl rfl, .inl rfl, .inl rfl, .inl rfl, trivial⟩) (⟨.inl rfl, .inl rfl, .inr ⟨rfl, (by first | rfl | (simp; done) | (simp; omega) | omega), fun i hi => absurd hi (Nat.not_lt_zero _)⟩, .inl rfl, trivial⟩) ?_
      refine x_loop (X := Int × (List Point) × l00Src) (fun x => mkS [(0, .ref 7001 0), (2, .ref 2 0), (3, .ref 3 0), (5, I x.1)] [(2, .box [nilA]), (3, .box [.arr 730]), (730, .arr 3 x.2.1.length (fPoint x.2.1)), (7001, bxl00Src x.2.2)]) (fun x => (okSrc x.2.2 ∧ x.2.2.code = s.code ∧ s.atx ≤ x.2.2.atx ∧ x.2.2.atx ≤ s.atx + 20 + 10 * (10 - x.1)) ∧ (0 ≤ x.1 ∧ x.1 ≤ 10) ∧ ((x.2.1.length : Int) + x.1 ≤ 10) ∧ True) (fun x => x.1.toNat) ((1 + v_7), ([] : List Point), s'_7) rfl (show (okSrc s'_7 ∧ s'_7.code = s.code ∧ s.atx ≤ s'_7.atx ∧ s'_7.atx ≤ s.atx + 20 + 10 * (10 - (1 + v_7))) ∧ (0 ≤ (1 + v_7) ∧ (1 + v_7) ≤ 10) ∧ ((([] : List Point).length : Int) + (1 + v_7) ≤ 10) ∧ True from ⟨(by exact ⟨by assumption, by first | assumption | rfl | (simp only [*]; done), by omega, by omega⟩), (by omega), (by simp; omega), trivial⟩) (fun x hI => ?_)
      obtain ⟨k, pts, src⟩ := x
      obtain ⟨hs0, hk0, hl0, _⟩ : (okSrc src ∧ src.code = s.code ∧ s.atx ≤ src.atx ∧ src.atx ≤ s.atx + 20 + 10 * (10 - k)) ∧ (0 ≤ k ∧ k ≤ 10) ∧ ((pts.length : Int) + k ≤ 10) ∧ True := hI
      show XW _ _ _ _ (mkS [(0, .ref 7001 0), (2, .ref 2 0), (3, .ref 3 0), (5, I k)] [(2, .box [nilA]), (3, .box [.arr 730]), (730, .arr 3 pts.length (fPoint pts)), (7001, bxl00Src src)]) _ _
      refine x_seq ?_
      refine x_seq ?_
      by_cases h4 : 0 < k
      ·refine x_reg [(1, .dec true)] [0, 2, 3, 5, 36] [2, 3, 730, 7001] [.ref 7001 0, .ref 2 0, .ref 3 0, I k, Bv true] [some (.box [nilA]), some (.box [.arr 730]), some (.arr 3 pts.length (fPoint pts)), some (bxl00Src src)] [0 < k] (by kernel_rfl) ⟨h4, trivial⟩ ?_
       refine xe_then ?_
       refine x_true rfl ?_
       refine x_skip ?_
       refine xe_then ?_
       refine x_seq ?_
       refine x_block ?_
       refine x_seq ?_
       obtain ⟨v_8, s'_8, hx8_0, hx8_1, hx8_2, hx8_3, hc8⟩ := pick_ok src 9 (by first | assumption | (simp only [okSrc] at *; simp_all; done)) (by omega)
       refine x_reg [(1, .lend [(7001, bxl00Src src, bxl00Src s'_8)] [] [(true, .ref 7001 0), (true, I 9)] true (I v_8))] [0, 2, 3, 5, 6] [2, 3, 730, 7001] [.ref 7001 0, .ref 2 0, .ref 3 0, I k, I v_8] [some (.box [nilA]), some (.box [.arr 730]), some (.arr 3 pts.length (fPoint pts)), some (bxl00Src s'_8)] [CallOK Tryz.prog 39 [.ref 7001 0, I 9] (lookO [(7001, bxl00Src src)]) true (I v_8) (lookO [(7001, bxl00Src s'_8)]) ∧ ((.ref 7001 0 : AV) = .ref 7001 0) ∧ ((I 9 : AV) = I 9) ∧ (((bxl00Src src : Ob) = bxl00Src src ∨ obLe noOb true (bxl00Src src) (bxl00Src src)) ∧ taggedO false (bxl00Src src)) ∧ True] (by kernel_rfl) ⟨⟨hc8, rfl, rfl, ⟨.inl rfl, (by simp [taggedO, taggedL, tagged, tagU8])⟩, trivial⟩, trivial⟩ ?_
       refine xe_then ?_
       refine x_seq ?_
       obtain ⟨v_9, s'_9, hx9_0, hx9_1, hx9_2, hx9_3, hc9⟩ := pick_ok s'_8 9 (by first | assumption | (simp only [okSrc] at *; simp_all; done)) (by omega)
       refine x_reg [(1, .lend [(7001, bxl00Src s'_8, bxl00Src s'_9)] [] [(true, .ref 7001 0), (true, I 9)] true (I v_9))] [0, 2, 3, 5, 6, 7] [2, 3, 730, 7001] [.ref 7001 0, .ref 2 0, .ref 3 0, I k, I v_8, I v_9] [some (.box [nilA]), some (.box [.arr 730]), some (.arr 3 pts.length (fPoint pts)), some (bxl00Src s'_9)] [CallOK Tryz.prog 39 [.ref 7001 0, I 9] (lookO [(7001, bxl00Src s'_8)]) true (I v_9) (lookO [(7001, bxl00Src s'_9)]) ∧ ((.ref 7001 0 : AV) = .ref 7001 0) ∧ ((I 9 : AV) = I 9) ∧ (((bxl00Src s'_8 : Ob) = bxl00Src s'_8 ∨ obLe noOb true (bxl00Src s'_8) (bxl00Src s'_8)) ∧ taggedO false (bxl00Src s'_8)) ∧ True] (by kernel_rfl) ⟨⟨hc9, rfl, rfl, ⟨.inl rfl, (by simp [taggedO, taggedL, tagged, tagU8])⟩, trivial⟩, trivial⟩ ?_
       refine xe_then ?_
       refine x_reg [(8, .new 51), (9, .new 52)] [0, 2, 3, 5] [2, 3, 52, 7001] [.ref 7001 0, .ref 2 0, .ref 3 0, I k] [some (.box [nilA]), some (.box [.arr 52]), some (.arr 3 (pts.length + 1) (catF pts.length (fPoint pts) (litF [I v_8, I v_9, I (pts.length : Int)] 3))), some (bxl00Src s'_9)] [(pts.length + 1) * 24 ≤ 140737488355328] (by kernel_rfl) ⟨(by omega), trivial⟩ ?_
       refine xe_block 1 ?_
       refine xe_then ?_
       refine x_reg [] [0, 2, 3, 5] [2, 3, 52, 7001] [.ref 7001 0, .ref 2 0, .ref 3 0, I (k - 1)] [some (.box [nilA]), some (.box [.arr 52]), some (.arr 3 (pts.length + 1) (catF pts.length (fPoint pts) (litF [I v_8, I v_9, I (pts.length : Int)] 3))), some (bxl00Src s'_9)] [inR .i64 (k - 1)] (by kernel_rfl) ⟨(inR_i64 (by omega) (by omega)), trivial⟩ ?_
       refine xe_weak [(730, 52)] (T := [(0, .ref 7001 0), (2, .ref 2 0), (3, .ref 3 0), (5, I (k - 1))]) (O := [(2, .box [nilA]), (3, .box [.arr 730]), (730, .arr 3 ((pts ++ [(Point.mk v_8 v_9 (pts.length : Int))]).length) (fPoint (pts ++ [(Point.mk v_8 v_9 (pts.length : Int))]))), (7001, bxl00Src s'_9)]) rfl (⟨.inl rfl, .inl rfl, .inl rfl, .inl rfl, trivial⟩) (⟨.inl rfl, .inl rfl, .inr ⟨rfl, (by first | rfl | (simp; done) | (simp; omega) | omega), fun i hi => .inl (cat_snoc (enc := cPoint) (xs := pts) rfl i hi)⟩, .inl rfl, trivial⟩) (xe_again ((k - 1), (pts ++ [(Point.mk v_8 v_9 (pts.length : Int))]), s'_9) rfl (show (okSrc s'_9 ∧ s'_9.code = s.code ∧ s.atx ≤ s'_9.atx ∧ s'_9.atx ≤ s.atx + 20 + 10 * (10 - (k - 1))) ∧ (0 ≤ (k - 1) ∧ (k - 1) ≤ 10) ∧ (((pts ++ [(Point.mk v_8 v_9 (pts.length : Int))]).length : Int) + (k - 1) ≤ 10) ∧ True from ⟨(by exact ⟨by assumption, by first | assumption | rfl | (simp only [*]; done), by omega, by omega⟩), (by omega), (by simp; omega), trivial⟩) (by show ((k - 1).toNat : Nat) < k.toNat; omega))
      ·refine x_reg [(1, .dec false)] [0, 2, 3, 5, 36] [2, 3, 730, 7001] [.ref 7001 0, .ref 2 0, .ref 3 0, I k, Bv false] [some (.box [nilA]), some (.box [.arr 730]), some (.arr 3 pts.length (fPoint pts)), some (bxl00Src src)] [¬ (0 < k)] (by kernel_rfl) ⟨h4, trivial⟩ ?_
       refine xe_then ?_
       refine x_false rfl ?_
       refine x_exit ?_
       refine xe_exit_then ?_
       refine xe_loop_exit ?_
       refine xe_exit_same ?_
       refine xe_then ?_
       refine x_seq ?_
       refine x_reg [] [2] [2, 730, 7001] [.ref 2 0] [some (.box [.arr 730]), some (.arr 3 pts.length (fPoint pts)), some (bxl00Src src)] [] (by kernel_rfl) trivial ?_
       refine xe_then ?_
       refine x_ret ?_
       refine xe_end ((Stroke.mk pts), src) (show (okSrc src) ∧ (src.code = s.code) ∧ (s.atx + 0 ≤ src.atx ∧ src.atx ≤ s.atx + 3600) ∧ (True) from ⟨(by first | omega | assumption | rfl | (simp; done) | (simp; omega) | (simp_all; done)), (by first | omega | assumption | rfl | (simp; done) | (simp; omega) | (simp_all; done)), (by first | omega | assumption | rfl | (simp; done) | (simp; omega) | (simp_all; done)), trivial⟩) (⟨.inl rfl, trivial⟩) (.agg [.arr 730]) (by kernel_rfl) (.inr ⟨⟨(fun _ => rfl), rfl, rfl, fun i _ => .inl rfl⟩, rfl⟩) (fun _ => rfl) (fun _ => (by simp [tagged, taggedL, tagPoint]))
  obtain ⟨⟨v, s'⟩, ⟨hh0, hh1, hh2, _⟩, hc⟩ := hh
  exact ⟨v, s', hh0, hh1, hh2, hc⟩


theorem down_spec (n : Int) {d : Int} (hd : 0 < d) : (Int.tmod n d < 0 → Int.tdiv n d - 1 = n / d) ∧ (¬ Int.tmod n d < 0 → Int.tdiv n d = n / d) := by
  have h1 := Int.mul_tdiv_add_tmod n d
  have h2 := Int.tmod_lt_of_pos n hd
  have h3 := Int.lt_tmod_of_pos n hd
  generalize Int.tdiv n d = q at *
  generalize Int.tmod n d = r at *
  subst h1
  constructor
  · intro h
    have e : d * q + r = (r + d) + d * (q - 1) := by rw [Int.mul_sub, Int.mul_one]; omega
    rw [e, Int.add_mul_ediv_left _ _ (by omega), Int.ediv_eq_zero_of_lt (by omega) (by omega)]; omega
  · intro h
    rw [Int.add_comm, Int.add_mul_ediv_left _ _ (by omega), Int.ediv_eq_zero_of_lt (by omega) (by omega)]; omega
theorem quo_bd {n r : Int} (h : 0 ≤ n) (hr : 0 < r) : 0 ≤ n / r ∧ n / r ≤ n := ⟨Int.ediv_nonneg h (by omega), Int.ediv_le_self _ h⟩
theorem tdiv_bd (n d : Int) : ((Int.tdiv n d).natAbs : Int) ≤ (n.natAbs : Int) := by
  rw [Int.natAbs_tdiv]
  exact Int.ofNat_le.2 (Nat.div_le_self _ _)
end Go.Proofs.YtebcbkejkpjeoaaGreatDoor.Ax
