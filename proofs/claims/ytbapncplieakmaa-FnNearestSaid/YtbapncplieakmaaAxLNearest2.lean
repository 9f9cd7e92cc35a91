/- Contracts that the statement FnNearest reaches, part 2. No conditions. -/
import Derived.Test.YtbapncplieakmaaAxLNearest1
import Derived.Test.YtbapncplieakmaaAxR
import Derived.Test.YtbapncplieakmaaAxS
namespace Go.Proofs.Ytbapncplieakmaa.Ax
open Go.RowKit Go.ChangeShapes Go.WideShapes
set_option linter.unusedVariables false
set_option linter.unusedSimpArgs false


-- impl.stepsBack
theorem stepsBack_ok : Con Try.prog 87 [] true (.agg [I 1, I 1, I 1, I 0, I 0, I 1]) := by
  refine fn_ok (fn := Try.f87) (nt := 5) Try.func87 rfl rfl rfl rfl (by simp [taggedL, tagged]) fun B hB => ?_
  refine aR [(0, .new 0)] [0] [0] [.ref 0 0] [some (.box [I 0, I 0, I 0, I 0, I 0, I 0])] [] hB trivial ?_
  refine aR [] [0] [0] [.ref 0 0] [some (.box [I 1, I 1, I 1, I 0, I 0, I 1])] [] hB trivial ?_
  refine aw_ret ?_
  refine ae_ret hB (.agg [I 1, I 1, I 1, I 0, I 0, I 1]) (by kernel_rfl) (.inl rfl) rfl (fun _ => (by simp [tagged, taggedL]))


-- impl.leastBefore
theorem leastBefore_ok (table : List (List Int)) (i : Int) (j : Int) (hi : 0 ≤ i ∧ i < (table.length : Int)) (hj : 0 ≤ j ∧ j ≤ 1000) (h1 : 1 ≤ i → j < ((at_ table (i - 1).toNat).length : Int)) (h2 : 1 ≤ j → j ≤ ((at_ table (i - 0).toNat).length : Int)) : Con Try.prog 73 [slLI false table, I i, I j] true (I (lb3 table i j)) := by
  refine fn_ok (fn := Try.f73) (nt := 41) Try.func73 rfl rfl rfl rfl (by simp [taggedL, tagged, tagLI]) fun B hB => ?_
  refine aw_lens (x := slLI false table) 0 rfl (fun len_table => ?_)
  simp [LenOK, LenL, cI, cLI, fI, fLI, slI, slLI] at len_table
  refine aR [] [0, 1, 2] [] [slLI false table, I i, I j] [] [] hB trivial ?_
  refine aR [] [0, 1, 2, 7] [] [slLI false table, I i, I j, I 1099511627776] [] [] hB trivial ?_
  refine aw_seq ?_
  refine aR [(0, .call [] true (.agg [I 1, I 1, I 1, I 0, I 0, I 1]))] [0, 1, 2, 7, 10, 11] [] [slLI false table, I i, I j, I 1099511627776, .agg [I 1, I 1, I 1, I 0, I 0, I 1], I 0] [] [Con Try.prog 87 [] true (.agg [I 1, I 1, I 1, I 0, I 0, I 1]) ∧ True] hB ⟨⟨(stepsBack_ok), trivial⟩, trivial⟩ ?_
  refine aw_block ?_
  refine aw_loop (fun gn gσ => ∃ (least : Int) (t11 : Int), gn = ((3 : Int) - t11).toNat ∧ (0 ≤ t11 ∧ t11 ≤ 3) ∧ (least = lbk table i j t11.toNat) ∧ gσ = mkS [(0, slLI false table), (1, I i), (2, I j), (7, I least), (10, .agg [I 1, I 1, I 1, I 0, I 0, I 1]), (11, I t11)] []) (((3 : Int) - 0).toNat) ⟨1099511627776, 0, rfl, (by omega), (by rfl), rfl⟩ (fun gn gσ hI => ?_)
  obtain ⟨least, t11, rfl, ht0, hl0, rfl⟩ := hI
  refine aw_seq ?_
  by_cases h1 : t11 < 3
  ·have hcs : t11 = 0 ∨ t11 = 1 ∨ t11 = 2 := by omega
   rcases hcs with rfl | rfl | rfl
   ·refine aw_r [(0, .dec true)] [0, 1, 2, 7, 10, 11, 12] [] [slLI false table, I i, I j, I least, .agg [I 1, I 1, I 1, I 0, I 0, I 1], I 0, Bv true] [] [(0 : Int) < 3] hB ⟨(by decide), trivial⟩ ?_
    refine ae_then ?_
    refine aw_seq ?_
    refine aw_true rfl ?_
    refine aw_skip ?_
    refine ae_then ?_
    refine aw_seq ?_
    refine aw_block ?_
    refine aR [(1, .new 9)] [0, 1, 2, 7, 9, 10, 11] [9] [slLI false table, I i, I j, I least, .ref 9 0, .agg [I 1, I 1, I 1, I 0, I 0, I 1], I 0] [some (.box [I 1, I 1])] [(0 : Int) ≤ 0 ∧ 0 < (3 : Int)] hB ⟨⟨by decide, by decide⟩, trivial⟩ ?_
    refine aw_seq ?_
    by_cases h2 : 1 ≤ i
    ·by_cases h3 : 1 ≤ j
     ·refine aw_r [(3, .dec true), (8, .dec true)] [0, 1, 2, 7, 9, 10, 11, 23] [9] [slLI false table, I i, I j, I least, .ref 9 0, .agg [I 1, I 1, I 1, I 0, I 0, I 1], I 0, Bv true] [some (.box [I 1, I 1])] [(0 : Int) ≤ 0 ∧ 0 < (2 : Int), 1 ≤ i, (0 : Int) ≤ 1 ∧ 1 < (2 : Int), 1 ≤ j] hB ⟨⟨by decide, by decide⟩, h2, ⟨by decide, by decide⟩, h3, trivial⟩ ?_
      refine ae_then ?_
      refine aw_true rfl ?_
      refine aw_r [] [0, 1, 2, 7, 10, 11] [] [slLI false table, I i, I j, I (min least (at_ (at_ table ((i - 1).toNat)) ((j - 1).toNat))), .agg [I 1, I 1, I 1, I 0, I 0, I 1], I 0] [] [(0 : Int) ≤ 0 ∧ 0 < (2 : Int), inR .i64 (i - 1), (0 : Int) ≤ (i - 1) ∧ (i - 1) < (table.length : Int), (0 : Int) ≤ 1 ∧ 1 < (2 : Int), inR .i64 (j - 1), (0 : Int) ≤ (j - 1) ∧ (j - 1) < (((at_ table ((i - 1).toNat)).length) : Int)] hB ⟨⟨by decide, by decide⟩, (inR_i64 (by omega) (by omega)), ⟨(by omega), (by omega)⟩, ⟨by decide, by decide⟩, (inR_i64 (by omega) (by omega)), ⟨(by omega), (by omega)⟩, trivial⟩ ?_
      refine ae_block 1 ?_
      refine ae_then ?_
      refine aw_r [] [0, 1, 2, 7, 10, 11] [] [slLI false table, I i, I j, I (min least (at_ (at_ table ((i - 1).toNat)) ((j - 1).toNat))), .agg [I 1, I 1, I 1, I 0, I 0, I 1], I (0 + 1)] [] [inR .i64 (0 + 1)] hB ⟨(inR_i64 (by omega) (by omega)), trivial⟩ ?_
      exact ae_again _ (by omega) ⟨(min least (at_ (at_ table ((i - 1).toNat)) ((j - 1).toNat))), (0 + 1), rfl, (by omega), (by rw [hl0]; first | (show _ = lb1 table i j; unfold lb1; first | (rw [if_pos (by omega)]; rfl) | (rw [if_neg (by omega)]; rfl)) | (show _ = lb2 table i j; unfold lb2; first | (rw [if_pos (by omega)]; rfl) | (rw [if_neg (by omega)]; rfl)) | (show _ = lb3 table i j; unfold lb3; first | (rw [if_pos (by omega)]; rfl) | (rw [if_neg (by omega)]; rfl))), rfl⟩
     refine aw_r [(3, .dec true), (8, .dec false)] [0, 1, 2, 7, 9, 10, 11, 23] [9] [slLI false table, I i, I j, I least, .ref 9 0, .agg [I 1, I 1, I 1, I 0, I 0, I 1], I 0, Bv false] [some (.box [I 1, I 1])] [(0 : Int) ≤ 0 ∧ 0 < (2 : Int), 1 ≤ i, (0 : Int) ≤ 1 ∧ 1 < (2 : Int), ¬ (1 ≤ j)] hB ⟨⟨by decide, by decide⟩, h2, ⟨by decide, by decide⟩, h3, trivial⟩ ?_
     refine ae_then ?_
     refine aw_false rfl ?_
     refine aw_skip ?_
     refine ae_block 1 ?_
     refine ae_then ?_
     refine aw_r [] [0, 1, 2, 7, 10, 11] [] [slLI false table, I i, I j, I least, .agg [I 1, I 1, I 1, I 0, I 0, I 1], I (0 + 1)] [] [inR .i64 (0 + 1)] hB ⟨(inR_i64 (by omega) (by omega)), trivial⟩ ?_
     exact ae_again _ (by omega) ⟨least, (0 + 1), rfl, (by omega), (by rw [hl0]; first | (show _ = lb1 table i j; unfold lb1; first | (rw [if_pos (by omega)]; rfl) | (rw [if_neg (by omega)]; rfl)) | (show _ = lb2 table i j; unfold lb2; first | (rw [if_pos (by omega)]; rfl) | (rw [if_neg (by omega)]; rfl)) | (show _ = lb3 table i j; unfold lb3; first | (rw [if_pos (by omega)]; rfl) | (rw [if_neg (by omega)]; rfl))), rfl⟩
    refine aw_r [(3, .dec false)] [0, 1, 2, 7, 9, 10, 11, 23] [9] [slLI false table, I i, I j, I least, .ref 9 0, .agg [I 1, I 1, I 1, I 0, I 0, I 1], I 0, Bv false] [some (.box [I 1, I 1])] [(0 : Int) ≤ 0 ∧ 0 < (2 : Int), ¬ (1 ≤ i)] hB ⟨⟨by decide, by decide⟩, h2, trivial⟩ ?_
    refine ae_then ?_
    refine aw_false rfl ?_
    refine aw_skip ?_
    refine ae_block 1 ?_
    refine ae_then ?_
    refine aw_r [] [0, 1, 2, 7, 10, 11] [] [slLI false table, I i, I j, I least, .agg [I 1, I 1, I 1, I 0, I 0, I 1], I (0 + 1)] [] [inR .i64 (0 + 1)] hB ⟨(inR_i64 (by omega) (by omega)), trivial⟩ ?_
    exact ae_again _ (by omega) ⟨least, (0 + 1), rfl, (by omega), (by rw [hl0]; first | (show _ = lb1 table i j; unfold lb1; first | (rw [if_pos (by omega)]; rfl) | (rw [if_neg (by omega)]; rfl)) | (show _ = lb2 table i j; unfold lb2; first | (rw [if_pos (by omega)]; rfl) | (rw [if_neg (by omega)]; rfl)) | (show _ = lb3 table i j; unfold lb3; first | (rw [if_pos (by omega)]; rfl) | (rw [if_neg (by omega)]; rfl))), rfl⟩
   ·refine aw_r [(0, .dec true)] [0, 1, 2, 7, 10, 11, 12] [] [slLI false table, I i, I j, I least, .agg [I 1, I 1, I 1, I 0, I 0, I 1], I 1, Bv true] [] [(1 : Int) < 3] hB ⟨(by decide), trivial⟩ ?_
    refine ae_then ?_
    refine aw_seq ?_
    refine aw_true rfl ?_
    refine aw_skip ?_
    refine ae_then ?_
    refine aw_seq ?_
    refine aw_block ?_
    refine aR [(1, .new 9)] [0, 1, 2, 7, 9, 10, 11] [9] [slLI false table, I i, I j, I least, .ref 9 0, .agg [I 1, I 1, I 1, I 0, I 0, I 1], I 1] [some (.box [I 1, I 0])] [(0 : Int) ≤ 1 ∧ 1 < (3 : Int)] hB ⟨⟨by decide, by decide⟩, trivial⟩ ?_
    refine aw_seq ?_
    by_cases h4 : 1 ≤ i
    ·refine aw_r [(3, .dec true), (8, .dec true)] [0, 1, 2, 7, 9, 10, 11, 23] [9] [slLI false table, I i, I j, I least, .ref 9 0, .agg [I 1, I 1, I 1, I 0, I 0, I 1], I 1, Bv true] [some (.box [I 1, I 0])] [(0 : Int) ≤ 0 ∧ 0 < (2 : Int), 1 ≤ i, (0 : Int) ≤ 1 ∧ 1 < (2 : Int), 0 ≤ j] hB ⟨⟨by decide, by decide⟩, h4, ⟨by decide, by decide⟩, (by omega), trivial⟩ ?_
     refine ae_then ?_
     refine aw_true rfl ?_
     refine aw_r [] [0, 1, 2, 7, 10, 11] [] [slLI false table, I i, I j, I (min least (at_ (at_ table ((i - 1).toNat)) ((j - 0).toNat))), .agg [I 1, I 1, I 1, I 0, I 0, I 1], I 1] [] [(0 : Int) ≤ 0 ∧ 0 < (2 : Int), inR .i64 (i - 1), (0 : Int) ≤ (i - 1) ∧ (i - 1) < (table.length : Int), (0 : Int) ≤ 1 ∧ 1 < (2 : Int), inR .i64 (j - 0), (0 : Int) ≤ (j - 0) ∧ (j - 0) < (((at_ table ((i - 1).toNat)).length) : Int)] hB ⟨⟨by decide, by decide⟩, (inR_i64 (by omega) (by omega)), ⟨(by omega), (by omega)⟩, ⟨by decide, by decide⟩, (inR_i64 (by omega) (by omega)), ⟨(by omega), (by omega)⟩, trivial⟩ ?_
     refine ae_block 1 ?_
     refine ae_then ?_
     refine aw_r [] [0, 1, 2, 7, 10, 11] [] [slLI false table, I i, I j, I (min least (at_ (at_ table ((i - 1).toNat)) ((j - 0).toNat))), .agg [I 1, I 1, I 1, I 0, I 0, I 1], I (1 + 1)] [] [inR .i64 (1 + 1)] hB ⟨(inR_i64 (by omega) (by omega)), trivial⟩ ?_
     exact ae_again _ (by omega) ⟨(min least (at_ (at_ table ((i - 1).toNat)) ((j - 0).toNat))), (1 + 1), rfl, (by omega), (by rw [hl0]; first | (show _ = lb1 table i j; unfold lb1; first | (rw [if_pos (by omega)]; rfl) | (rw [if_neg (by omega)]; rfl)) | (show _ = lb2 table i j; unfold lb2; first | (rw [if_pos (by omega)]; rfl) | (rw [if_neg (by omega)]; rfl)) | (show _ = lb3 table i j; unfold lb3; first | (rw [if_pos (by omega)]; rfl) | (rw [if_neg (by omega)]; rfl))), rfl⟩
    refine aw_r [(3, .dec false)] [0, 1, 2, 7, 9, 10, 11, 23] [9] [slLI false table, I i, I j, I least, .ref 9 0, .agg [I 1, I 1, I 1, I 0, I 0, I 1], I 1, Bv false] [some (.box [I 1, I 0])] [(0 : Int) ≤ 0 ∧ 0 < (2 : Int), ¬ (1 ≤ i)] hB ⟨⟨by decide, by decide⟩, h4, trivial⟩ ?_
    refine ae_then ?_
    refine aw_false rfl ?_
    refine aw_skip ?_
    refine ae_block 1 ?_
    refine ae_then ?_
    refine aw_r [] [0, 1, 2, 7, 10, 11] [] [slLI false table, I i, I j, I least, .agg [I 1, I 1, I 1, I 0, I 0, I 1], I (1 + 1)] [] [inR .i64 (1 + 1)] hB ⟨(inR_i64 (by omega) (by omega)), trivial⟩ ?_
    exact ae_again _ (by omega) ⟨least, (1 + 1), rfl, (by omega), (by rw [hl0]; first | (show _ = lb1 table i j; unfold lb1; first | (rw [if_pos (by omega)]; rfl) | (rw [if_neg (by omega)]; rfl)) | (show _ = lb2 table i j; unfold lb2; first | (rw [if_pos (by omega)]; rfl) | (rw [if_neg (by omega)]; rfl)) | (show _ = lb3 table i j; unfold lb3; first | (rw [if_pos (by omega)]; rfl) | (rw [if_neg (by omega)]; rfl))), rfl⟩
   ·refine aw_r [(0, .dec true)] [0, 1, 2, 7, 10, 11, 12] [] [slLI false table, I i, I j, I least, .agg [I 1, I 1, I 1, I 0, I 0, I 1], I 2, Bv true] [] [(2 : Int) < 3] hB ⟨(by decide), trivial⟩ ?_
    refine ae_then ?_
    refine aw_seq ?_
    refine aw_true rfl ?_
    refine aw_skip ?_
    refine ae_then ?_
    refine aw_seq ?_
    refine aw_block ?_
    refine aR [(1, .new 9)] [0, 1, 2, 7, 9, 10, 11] [9] [slLI false table, I i, I j, I least, .ref 9 0, .agg [I 1, I 1, I 1, I 0, I 0, I 1], I 2] [some (.box [I 0, I 1])] [(0 : Int) ≤ 2 ∧ 2 < (3 : Int)] hB ⟨⟨by decide, by decide⟩, trivial⟩ ?_
    refine aw_seq ?_
    by_cases h5 : 1 ≤ j
    ·refine aw_r [(3, .dec true), (8, .dec true)] [0, 1, 2, 7, 9, 10, 11, 23] [9] [slLI false table, I i, I j, I least, .ref 9 0, .agg [I 1, I 1, I 1, I 0, I 0, I 1], I 2, Bv true] [some (.box [I 0, I 1])] [(0 : Int) ≤ 0 ∧ 0 < (2 : Int), 0 ≤ i, (0 : Int) ≤ 1 ∧ 1 < (2 : Int), 1 ≤ j] hB ⟨⟨by decide, by decide⟩, (by omega), ⟨by decide, by decide⟩, h5, trivial⟩ ?_
     refine ae_then ?_
     refine aw_true rfl ?_
     refine aw_r [] [0, 1, 2, 7, 10, 11] [] [slLI false table, I i, I j, I (min least (at_ (at_ table ((i - 0).toNat)) ((j - 1).toNat))), .agg [I 1, I 1, I 1, I 0, I 0, I 1], I 2] [] [(0 : Int) ≤ 0 ∧ 0 < (2 : Int), inR .i64 (i - 0), (0 : Int) ≤ (i - 0) ∧ (i - 0) < (table.length : Int), (0 : Int) ≤ 1 ∧ 1 < (2 : Int), inR .i64 (j - 1), (0 : Int) ≤ (j - 1) ∧ (j - 1) < (((at_ table ((i - 0).toNat)).length) : Int)] hB ⟨⟨by decide, by decide⟩, (inR_i64 (by omega) (by omega)), ⟨(by omega), (by omega)⟩, ⟨by decide, by decide⟩, (inR_i64 (by omega) (by omega)), ⟨(by omega), (by omega)⟩, trivial⟩ ?_
     refine ae_block 1 ?_
     refine ae_then ?_
     refine aw_r [] [0, 1, 2, 7, 10, 11] [] [slLI false table, I i, I j, I (min least (at_ (at_ table ((i - 0).toNat)) ((j - 1).toNat))), .agg [I 1, I 1, I 1, I 0, I 0, I 1], I (2 + 1)] [] [inR .i64 (2 + 1)] hB ⟨(inR_i64 (by omega) (by omega)), trivial⟩ ?_
     exact ae_again _ (by omega) ⟨(min least (at_ (at_ table ((i - 0).toNat)) ((j - 1).toNat))), (2 + 1), rfl, (by omega), (by rw [hl0]; first | (show _ = lb1 table i j; unfold lb1; first | (rw [if_pos (by omega)]; rfl) | (rw [if_neg (by omega)]; rfl)) | (show _ = lb2 table i j; unfold lb2; first | (rw [if_pos (by omega)]; rfl) | (rw [if_neg (by omega)]; rfl)) | (show _ = lb3 table i j; unfold lb3; first | (rw [if_pos (by omega)]; rfl) | (rw [if_neg (by omega)]; rfl))), rfl⟩
    refine aw_r [(3, .dec true), (8, .dec false)] [0, 1, 2, 7, 9, 10, 11, 23] [9] [slLI false table, I i, I j, I least, .ref 9 0, .agg [I 1, I 1, I 1, I 0, I 0, I 1], I 2, Bv false] [some (.box [I 0, I 1])] [(0 : Int) ≤ 0 ∧ 0 < (2 : Int), 0 ≤ i, (0 : Int) ≤ 1 ∧ 1 < (2 : Int), ¬ (1 ≤ j)] hB ⟨⟨by decide, by decide⟩, (by omega), ⟨by decide, by decide⟩, h5, trivial⟩ ?_
    refine ae_then ?_
    refine aw_false rfl ?_
    refine aw_skip ?_
    refine ae_block 1 ?_
    refine ae_then ?_
    refine aw_r [] [0, 1, 2, 7, 10, 11] [] [slLI false table, I i, I j, I least, .agg [I 1, I 1, I 1, I 0, I 0, I 1], I (2 + 1)] [] [inR .i64 (2 + 1)] hB ⟨(inR_i64 (by omega) (by omega)), trivial⟩ ?_
    exact ae_again _ (by omega) ⟨least, (2 + 1), rfl, (by omega), (by rw [hl0]; first | (show _ = lb1 table i j; unfold lb1; first | (rw [if_pos (by omega)]; rfl) | (rw [if_neg (by omega)]; rfl)) | (show _ = lb2 table i j; unfold lb2; first | (rw [if_pos (by omega)]; rfl) | (rw [if_neg (by omega)]; rfl)) | (show _ = lb3 table i j; unfold lb3; first | (rw [if_pos (by omega)]; rfl) | (rw [if_neg (by omega)]; rfl))), rfl⟩
  have hte : t11.toNat = 3 := by omega
  refine aw_r [(0, .dec false)] [0, 1, 2, 7, 10, 11, 12] [] [slLI false table, I i, I j, I least, .agg [I 1, I 1, I 1, I 0, I 0, I 1], I t11, Bv false] [] [¬ (t11 < 3)] hB ⟨h1, trivial⟩ ?_
  refine ae_then ?_
  refine aw_seq ?_
  refine aw_false rfl ?_
  refine aw_exit ?_
  refine ae_exit_then ?_
  refine ae_exit_then ?_
  refine ae_exit_same ?_
  refine ae_then ?_
  refine aR [] [6] [] [I least] [] [] hB trivial ?_
  refine aw_ret ?_
  refine ae_ret hB (I least) (by kernel_rfl) (.inl (by rw [hl0, hte]; rfl)) rfl (fun _ => trivial)


theorem beq_ne {i k : Nat} (h : i ≠ k) : Nat.beq i k = false := Bool.eq_false_iff.2 fun e => h (Nat.eq_of_beq_eq_true e)
theorem at_set_eq {α : Type} [Inhabited α] {xs : List α} {k : Nat} {c : α} (h : k < xs.length) : at_ (xs.set k c) k = c := by simp [at_, h]
theorem at_set_ne {α : Type} [Inhabited α] {xs : List α} {k i : Nat} {c : α} (h : i ≠ k) : at_ (xs.set k c) i = at_ xs i := by
  have : ¬ k = i := fun e => h e.symm
  simp [at_, this]
theorem le_row {ob : Nat → Option Ob} {F N sz p n : Nat} {m : Nat → Nat} {g : Nat → Nat → List AV} {fr : Bool} {f : Nat → List AV} (h : ob F = some (.fam N sz m g)) (hp : p < N) (hn : m p = n)
    (hf : ∀ i, i < n → g p i = f i ∨ (AV.idsL (f i) = [] ∧ leL (fun _ => none) false (g p i) (f i))) : le ob true (.row F p) (.sl fr sz n f) := by
  simp only [le, h]
  exact ⟨fun _ => trivial, hp, trivial, hn, hf⟩

def oLIc (F : Nat) (x : List Int) (i : Nat) : List AV := [.row F i]
def oLI (F : Nat) (xs : List (List Int)) (i : Nat) : List AV := oLIc F (at_ xs i) i
def mLI (xs : List (List Int)) (p : Nat) : Nat := (at_ xs p).length
def gLI (xs : List (List Int)) (p : Nat) : Nat → List AV := fI (at_ xs p)
theorem oleLI {ob : Nat → Option Ob} {F : Nat} (fr : Bool) (xs : List (List Int)) (h : ob F = some (.fam xs.length 1 (mLI xs) (gLI xs))) : ∀ i, i < xs.length → AV.idsL (fLI fr xs i) = [] ∧ leL ob true (oLI F xs i) (fLI fr xs i) :=
  fun i hi => And.intro rfl (And.intro (le_row h hi rfl (fun q _ => .inl rfl)) rfl)
theorem olecatLI {ob : Nat → Option Ob} {F : Nat} (fr : Bool) (xs : List (List Int)) (x : List Int) {f : Nat → List AV} (h : ob F = some (.fam xs.length 1 (mLI xs) (gLI xs))) (hx : leL ob true (f 0) (cLI fr x)) : ∀ i, i < (xs ++ [x]).length → AV.idsL (fLI fr (xs ++ [x]) i) = [] ∧ leL ob true (catF xs.length (oLI F xs) f i) (fLI fr (xs ++ [x]) i) := by
  intro i hi
  by_cases hl : i < xs.length
  · have := oleLI fr xs h i hl
    rw [catF_lt hl]
    have e : fLI fr (xs ++ [x]) i = fLI fr xs i := by show cLI fr (at_ _ _) = cLI fr (at_ _ _); rw [at_left hl]
    rw [e]; exact this
  · have e : i = xs.length := by simp at hi; omega
    subst e
    rw [catF_ge (Nat.le_refl _), Nat.sub_self]
    have e : fLI fr (xs ++ [x]) xs.length = cLI fr x := by show cLI fr (at_ _ _) = _; rw [at_right (Nat.le_refl _)]; simp [at_]
    rw [e]; exact ⟨rfl, hx⟩
theorem ocatLI {F j N : Nat} (hF : Nat.beq F j = false) {xs : List (List Int)} {x : List Int} {g : Nat → List AV} (hN : N = xs.length) (hx : AV.joiL j F N (g 0) = oLIc F x N) : ∀ i, i < (xs ++ [x]).length → AV.joiL j F N (catF xs.length (oLI F xs) g i) = oLI F (xs ++ [x]) i := by
  subst hN
  intro i hi
  by_cases h : i < xs.length
  · rw [catF_lt h]
    simp [oLI, oLIc, at_left h, AV.joiL, AV.joi, hF]
  · have e : i = xs.length := by simp at hi; omega
    subst e
    rw [catF_ge (Nat.le_refl _), Nat.sub_self, hx]
    simp [oLI, at_right (Nat.le_refl _), at_]
theorem fcatLI {xs : List (List Int)} (x : List Int) {n : Nat} {f : Nat → List AV} (hn : n = x.length) (hf : ∀ i, i < n → f i = fI x i) : xs.length + 1 = (xs ++ [x]).length ∧ 1 = 1 ∧ ∀ p, p < (xs ++ [x]).length → famUp xs.length n (mLI xs) p = mLI (xs ++ [x]) p ∧ ∀ i, i < mLI (xs ++ [x]) p → famUpF xs.length f (gLI xs) p i = gLI (xs ++ [x]) p i ∨ (AV.idsL (gLI (xs ++ [x]) p i) = [] ∧ leL (fun _ => none) false (famUpF xs.length f (gLI xs) p i) (gLI (xs ++ [x]) p i)) := by
  refine ⟨by simp, rfl, fun p hp => ?_⟩
  by_cases h : p < xs.length
  · have e : Nat.beq p xs.length = false := Bool.eq_false_iff.2 fun e => by have := Nat.eq_of_beq_eq_true e; omega
    simp [famUp, famUpF, e, mLI, gLI, at_left h]
  · have e : p = xs.length := by simp at hp; omega
    subst e
    have e2 : at_ (xs ++ [x]) xs.length = x := by simp [at_right (Nat.le_refl _), at_]
    simp only [famUp, famUpF, Nat.beq_refl, cond_true, mLI, gLI, e2]
    exact ⟨hn, fun i hi => .inl (hf i (by omega))⟩
theorem osetLI (F P : Nat) (xs : List (List Int)) (ys : List Int) (i : Nat) : oLI F xs i = oLI F (xs.set P ys) i := by
  unfold oLI
  by_cases h : P = i
  · subst h
    by_cases hl : P < xs.length
    · simp [at_, hl, oLIc]
    · rw [List.set_eq_of_length_le (by omega)]
  · simp [at_, h]
theorem fnilLI (n : Nat) {g : Nat → Nat → List AV} : n = (List.replicate n ([] : List Int)).length ∧ 1 = 1 ∧ ∀ p, p < (List.replicate n ([] : List Int)).length → (fun _ : Nat => (0 : Nat)) p = mLI (List.replicate n ([] : List Int)) p ∧ ∀ i, i < mLI (List.replicate n ([] : List Int)) p → g p i = gLI (List.replicate n ([] : List Int)) p i ∨ (AV.idsL (gLI (List.replicate n ([] : List Int)) p i) = [] ∧ leL (fun _ => none) false (g p i) (gLI (List.replicate n ([] : List Int)) p i)) := by
  refine ⟨by simp, rfl, fun p hp => ?_⟩
  have e : mLI (List.replicate n ([] : List Int)) p = 0 := by simp only [List.length_replicate] at hp; simp [mLI, at_, hp]
  exact ⟨e.symm, fun i hi => by rw [e] at hi; exact absurd hi (Nat.not_lt_zero _)⟩
theorem fputLI {xs : List (List Int)} {P m1 : Nat} {ys : List Int} {f1 : Nat → List AV} (hP : P < xs.length) (hm : m1 = ys.length) (hf : ∀ i, i < m1 → f1 i = fI ys i) : xs.length = (xs.set P ys).length ∧ 1 = 1 ∧ ∀ p, p < (xs.set P ys).length → famUp P m1 (mLI xs) p = mLI (xs.set P ys) p ∧ ∀ i, i < mLI (xs.set P ys) p → famUpF P f1 (gLI xs) p i = gLI (xs.set P ys) p i ∨ (AV.idsL (gLI (xs.set P ys) p i) = [] ∧ leL (fun _ => none) false (famUpF P f1 (gLI xs) p i) (gLI (xs.set P ys) p i)) := by
  refine ⟨by simp, rfl, fun p hp => ?_⟩
  by_cases h : p = P
  · subst h
    have e : at_ (xs.set p ys) p = ys := at_set_eq hP
    refine ⟨?_, fun i hi => .inl ?_⟩
    · simp only [famUp, Nat.beq_refl, cond_true, mLI, e]; exact hm
    · simp only [mLI, e] at hi; simp only [famUpF, Nat.beq_refl, cond_true, gLI, e]; exact hf i (by omega)
  · have e : at_ (xs.set P ys) p = at_ xs p := at_set_ne h
    have b := beq_ne h
    refine ⟨?_, fun i hi => .inl ?_⟩
    · simp only [famUp, b, cond_false, mLI, e]
    · simp only [famUpF, b, cond_false, gLI, e]
theorem fsetLI {xs : List (List Int)} {P k : Nat} {c : Int} {g' : Nat → Nat → List AV} (hP : P < xs.length) (hk : k < (at_ xs P).length) (h1 : g' P k = cI c) (h2 : ∀ i, i ≠ k → g' P i = gLI xs P i) (h3 : ∀ p, p ≠ P → g' p = gLI xs p) : xs.length = (xs.set P ((at_ xs P).set k c)).length ∧ 1 = 1 ∧ ∀ p, p < (xs.set P ((at_ xs P).set k c)).length → mLI xs p = mLI (xs.set P ((at_ xs P).set k c)) p ∧ ∀ i, i < mLI (xs.set P ((at_ xs P).set k c)) p → g' p i = gLI (xs.set P ((at_ xs P).set k c)) p i ∨ (AV.idsL (gLI (xs.set P ((at_ xs P).set k c)) p i) = [] ∧ leL (fun _ => none) false (g' p i) (gLI (xs.set P ((at_ xs P).set k c)) p i)) := by
  refine ⟨by simp, rfl, fun p hp => ?_⟩
  by_cases h : p = P
  · subst h
    have e2 : at_ (xs.set p ((at_ xs p).set k c)) p = ((at_ xs p).set k c) := at_set_eq hP
    have e3 : ((at_ xs p).set k c) = (at_ xs p).set k c := rfl
    simp only [mLI, gLI, e2, e3]
    refine ⟨by simp, fun i hi => .inl ?_⟩
    by_cases hi2 : i = k
    · subst hi2
      rw [h1]
      show _ = cI (at_ _ _)
      rw [at_set_eq hk]
    · rw [h2 i hi2]
      show cI (at_ _ _) = cI (at_ _ _)
      rw [at_set_ne hi2]
  · have e : at_ (xs.set P ((at_ xs P).set k c)) p = at_ xs p := at_set_ne h
    simp only [mLI, gLI, e]
    refine ⟨trivial, fun i hi => .inl ?_⟩
    rw [h3 p h]; rfl

-- impl.costTable
theorem costTable_ok (a : List Feat) (b : List Feat) (band : Int) (hab : okAB a b) (hbd : 0 ≤ band ∧ band ≤ 1000) : ∃ (v : List (List Int)), (tbOk a b band v a.length) ∧ Con Try.prog 48 [slFeat false a, slFeat false b, I band] true (slLI true v) := by
  have hla := hab.2.2
  have hh : ∃ r : (List (List Int)), ((tbOk a b band r a.length) ∧ (True)) ∧ CallOK Try.prog 48 [slFeat false a, slFeat false b, I band] (lookO []) true (slLI true r) (lookO []) := by
    refine fn_okX (Φ := fun r : (List (List Int)) => (tbOk a b band r a.length) ∧ (True)) [] (fun r => []) (fn := Try.f48) (nt := 76) Try.func48 rfl rfl (args := [slFeat false a, slFeat false b, I band]) rfl (allcons (.inl ⟨rfl, tagFeat false _⟩) (allcons (.inl ⟨rfl, tagFeat false _⟩) (allcons (.inl ⟨rfl, trivial⟩) allnil))) (res := fun r => slLI true r) ?_
    refine xR [] [0, 1, 2] [] [slFeat false a, slFeat false b, I band] [] [] trivial ?_
    refine xR [(2, .new 13)] [0, 1, 2, 7] [13] [slFeat false a, slFeat false b, I band, .arr 13] [some (.arr 1 ((a.length : Int).toNat) (fun _ => [nilA]))] [(0 : Int) ≤ (a.length : Int) ∧ ((a.length : Int) : Int) ≤ (a.length : Int) ∧ (24 : Int) * (a.length : Int) ≤ 281474976710656 ∧ (a.length : Int) ≤ 9223372036854775807] ⟨⟨(by omega), (by omega), (by omega), (by omega)⟩, trivial⟩ ?_
    refine x_seq ?_
    refine xR [] [0, 1, 2, 7, 15, 16] [13] [slFeat false a, slFeat false b, I band, .arr 13, I (a.length : Int), I 0] [some (.arr 1 ((a.length : Int).toNat) (fun _ => [nilA]))] [] trivial ?_
    refine x_block ?_
    refine x_famN 13 8401 1 rfl (fun q _ => ⟨_, rfl, rfl⟩) (by kernel_rfl) ?_
    refine x_weak [] (T := [(0, slFeat false a), (1, slFeat false b), (2, I band), (7, .arr 13), (15, I (a.length : Int)), (16, I 0)]) (O := [(13, .oar [8401] 1 ((List.replicate ((a.length : Int).toNat) ([] : List Int)).length) (oLI 8401 (List.replicate ((a.length : Int).toNat) ([] : List Int)))), (8401, .fam (List.replicate ((a.length : Int).toNat) ([] : List Int)).length 1 (mLI (List.replicate ((a.length : Int).toNat) ([] : List Int))) (gLI (List.replicate ((a.length : Int).toNat) ([] : List Int))))]) rfl (⟨.inl rfl, .inl rfl, .inl rfl, .inl rfl, .inl rfl, .inl rfl, trivial⟩) (⟨.inr ⟨rfl, rfl, (by simp), fun i hi => .inl rfl⟩, .inr (fnilLI ((a.length : Int).toNat)), trivial⟩) ?_
    refine x_loop (X := Int × (List (List Int))) (fun x => mkS [(0, slFeat false a), (1, slFeat false b), (2, I band), (7, .arr 13), (15, I (a.length : Int)), (16, I x.1)] [(13, .oar [8401] 1 x.2.length (oLI 8401 x.2)), (8401, .fam x.2.length 1 (mLI x.2) (gLI x.2))]) (fun x => (0 ≤ x.1 ∧ x.1 ≤ (a.length : Int)) ∧ (tbOk a b band x.2 x.1.toNat) ∧ True) (fun x => ((a.length : Int) - x.1).toNat) (0, (List.replicate ((a.length : Int).toNat) ([] : List Int))) rfl (show (0 ≤ (0 : Int) ∧ (0 : Int) ≤ (a.length : Int)) ∧ (tbOk a b band (List.replicate ((a.length : Int).toNat) ([] : List Int)) (0 : Int).toNat) ∧ True from ⟨(by omega), (by exact tb_nil a b band (by first | rfl | omega | simp)), trivial⟩) (fun x hI => ?_)
    obtain ⟨t16, tb⟩ := x
    obtain ⟨hi0, htb, _⟩ : (0 ≤ t16 ∧ t16 ≤ (a.length : Int)) ∧ (tbOk a b band tb t16.toNat) ∧ True := hI
    show XW _ _ _ _ (mkS [(0, slFeat false a), (1, slFeat false b), (2, I band), (7, .arr 13), (15, I (a.length : Int)), (16, I t16)] [(13, .oar [8401] 1 tb.length (oLI 8401 tb)), (8401, .fam tb.length 1 (mLI tb) (gLI tb))]) _ _
    refine x_seq ?_
    by_cases h1 : t16 < (a.length : Int)
    ·have hi : t16.toNat < a.length := by omega
     have hix : ((t16.toNat : Nat) : Int) = t16 := by omega
     have htl := htb.1
     refine x_r [(0, .dec true)] [0, 1, 2, 7, 15, 16, 17] [13, 8401] [slFeat false a, slFeat false b, I band, .arr 13, I (a.length : Int), I t16, Bv true] [some (.oar [8401] 1 tb.length (oLI 8401 tb)), some (.fam tb.length 1 (mLI tb) (gLI tb))] [t16 < (a.length : Int)] ⟨h1, trivial⟩ ?_
     refine xe_then ?_
     refine x_seq ?_
     refine x_true rfl ?_
     refine x_skip ?_
     refine xe_then ?_
     refine x_seq ?_
     refine x_block ?_
     refine xR [] [0, 1, 2, 7, 8, 15, 16] [13, 8401] [slFeat false a, slFeat false b, I band, .arr 13, I t16, I (a.length : Int), I t16] [some (.oar [8401] 1 tb.length (oLI 8401 tb)), some (.fam tb.length 1 (mLI tb) (gLI tb))] [] trivial ?_
     refine xR [(4, .new 23)] [0, 1, 2, 7, 8, 15, 16] [13, 23, 8401] [slFeat false a, slFeat false b, I band, .arr 13, I t16, I (a.length : Int), I t16] [some (.oar [8401, 23] 1 tb.length (fun q => bif Nat.beq q t16.toNat then [.arr 23] else (oLI 8401 tb) q)), some (.arr 1 ((b.length : Int).toNat) (fun _ => [I 0])), some (.fam tb.length 1 (mLI tb) (gLI tb))] [(0 : Int) ≤ (b.length : Int) ∧ ((b.length : Int) : Int) ≤ (b.length : Int) ∧ (8 : Int) * (b.length : Int) ≤ 281474976710656 ∧ (b.length : Int) ≤ 9223372036854775807, (0 : Int) ≤ t16 ∧ t16 < (tb.length : Int), t16.toNat < tb.length] ⟨⟨(by omega), (by omega), (by omega), (by omega)⟩, ⟨(by omega), (by omega)⟩, (by omega), trivial⟩ ?_
     refine x_seq ?_
     refine x_putrow 13 23 8401 t16.toNat rfl rfl rfl ((by omega)) (by first | exact Nat.le_refl _ | omega) (fun q _ => ⟨fun e => by subst e; simp only [Nat.beq_refl, cond_true], fun e => by simp only [beq_ne e, cond_false]; rfl⟩) (by kernel_rfl) ?_
     refine x_weak [] (T := [(0, slFeat false a), (1, slFeat false b), (2, I band), (7, .arr 13), (8, I t16), (15, I (a.length : Int)), (16, I t16)]) (O := [(13, .oar [8401] 1 ((tb.set t16.toNat (List.replicate ((b.length : Int).toNat) 0)).length) (oLI 8401 (tb.set t16.toNat (List.replicate ((b.length : Int).toNat) 0)))), (8401, .fam (tb.set t16.toNat (List.replicate ((b.length : Int).toNat) 0)).length 1 (mLI (tb.set t16.toNat (List.replicate ((b.length : Int).toNat) 0))) (gLI (tb.set t16.toNat (List.replicate ((b.length : Int).toNat) 0))))]) rfl (⟨.inl rfl, .inl rfl, .inl rfl, .inl rfl, .inl rfl, .inl rfl, .inl rfl, trivial⟩) (⟨.inr ⟨rfl, rfl, (by simp), fun i hi => .inl rfl⟩, .inr (fputLI ((by omega)) (by first | rfl | (simp; done) | (simp; omega)) (fun i_ h_ => (show ∀ i_ : Nat, i_ < ((List.replicate ((b.length : Int).toNat) 0) : List Int).length → (fun _ => [I 0]) i_ = (fI (List.replicate ((b.length : Int).toNat) 0)) i_ from fun i_ hi_ => (const_enc (enc := cI) rfl i_ hi_)) i_ (by first | exact h_ | (simpa using h_)))), trivial⟩) ?_
     refine x_r [] [0, 1, 2, 7, 8, 15, 16, 26, 27] [13, 8401] [slFeat false a, slFeat false b, I band, .arr 13, I t16, I (a.length : Int), I t16, I (b.length : Int), I 0] [some (.oar [8401] 1 ((tb.set t16.toNat (List.replicate ((b.length : Int).toNat) 0)).length) (oLI 8401 (tb.set t16.toNat (List.replicate ((b.length : Int).toNat) 0)))), some (.fam (tb.set t16.toNat (List.replicate ((b.length : Int).toNat) 0)).length 1 (mLI (tb.set t16.toNat (List.replicate ((b.length : Int).toNat) 0))) (gLI (tb.set t16.toNat (List.replicate ((b.length : Int).toNat) 0))))] [] trivial ?_
     refine xe_then ?_
     refine x_block ?_
     refine x_loop (X := Int × (List (List Int))) (fun x => mkS [(0, slFeat false a), (1, slFeat false b), (2, I band), (7, .arr 13), (8, I t16), (15, I (a.length : Int)), (16, I t16), (26, I (b.length : Int)), (27, I x.1)] [(13, .oar [8401] 1 x.2.length (oLI 8401 x.2)), (8401, .fam x.2.length 1 (mLI x.2) (gLI x.2))]) (fun x => (0 ≤ x.1 ∧ x.1 ≤ (b.length : Int)) ∧ (tbOk a b band x.2 t16.toNat ∧ rowOk a b band (at_ x.2 t16.toNat) t16.toNat x.1.toNat) ∧ True) (fun x => ((b.length : Int) - x.1).toNat) (0, (tb.set t16.toNat (List.replicate ((b.length : Int).toNat) 0))) rfl (show (0 ≤ (0 : Int) ∧ (0 : Int) ≤ (b.length : Int)) ∧ (tbOk a b band (tb.set t16.toNat (List.replicate ((b.length : Int).toNat) 0)) t16.toNat ∧ rowOk a b band (at_ (tb.set t16.toNat (List.replicate ((b.length : Int).toNat) 0)) t16.toNat) t16.toNat (0 : Int).toNat) ∧ True from ⟨(by omega), (by exact tb_row htb hi (by first | rfl | omega | simp)), trivial⟩) (fun x hI => ?_)
     obtain ⟨t27, tb'⟩ := x
     obtain ⟨hj0, hin, _⟩ : (0 ≤ t27 ∧ t27 ≤ (b.length : Int)) ∧ (tbOk a b band tb' t16.toNat ∧ rowOk a b band (at_ tb' t16.toNat) t16.toNat t27.toNat) ∧ True := hI
     show XW _ _ _ _ (mkS [(0, slFeat false a), (1, slFeat false b), (2, I band), (7, .arr 13), (8, I t16), (15, I (a.length : Int)), (16, I t16), (26, I (b.length : Int)), (27, I t27)] [(13, .oar [8401] 1 tb'.length (oLI 8401 tb')), (8401, .fam tb'.length 1 (mLI tb') (gLI tb'))]) _ _
     refine x_seq ?_
     by_cases h2 : t27 < (b.length : Int)
     ·have hj : t27.toNat < b.length := by omega
      have hcb := costF_bd (hab.1 _ hi) (hab.2.1 _ hj)
      have hjx : ((t27.toNat : Nat) : Int) = t27 := by omega
      have htl2 := hin.1.1
      have htl3 := hin.2.1
      have hlb := lb_at hab hin.1 hin.2 hi hj
      rw [hix, hjx] at hlb
      have hrl : 1 ≤ t16 → ((at_ tb' (t16 - 1).toNat).length : Int) = b.length := fun q => by rw [(hin.1.2 (t16 - 1).toNat (by omega)).1]
      have hrz : (t16 - 0).toNat = t16.toNat := by omega
      refine x_r [(0, .dec true)] [0, 1, 2, 7, 8, 15, 16, 26, 27, 28] [13, 8401] [slFeat false a, slFeat false b, I band, .arr 13, I t16, I (a.length : Int), I t16, I (b.length : Int), I t27, Bv true] [some (.oar [8401] 1 tb'.length (oLI 8401 tb')), some (.fam tb'.length 1 (mLI tb') (gLI tb'))] [t27 < (b.length : Int)] ⟨h2, trivial⟩ ?_
      refine xe_then ?_
      refine x_seq ?_
      refine x_true rfl ?_
      refine x_skip ?_
      refine xe_then ?_
      refine x_seq ?_
      refine x_block ?_
      refine xR [] [0, 1, 2, 7, 8, 9, 15, 16, 26, 27] [13, 8401] [slFeat false a, slFeat false b, I band, .arr 13, I t16, I t27, I (a.length : Int), I t16, I (b.length : Int), I t27] [some (.oar [8401] 1 tb'.length (oLI 8401 tb')), some (.fam tb'.length 1 (mLI tb') (gLI tb'))] [] trivial ?_
      refine xR [(3, .call [(false, slLI false tb'), (true, .any), (true, .any)] true (I (lb3 tb' t16 t27)))] [0, 1, 2, 7, 8, 9, 10, 15, 16, 26, 27] [13, 8401] [slFeat false a, slFeat false b, I band, .arr 13, I t16, I t27, I (lb3 tb' t16 t27), I (a.length : Int), I t16, I (b.length : Int), I t27] [some (.oar [8401] 1 tb'.length (oLI 8401 tb')), some (.fam tb'.length 1 (mLI tb') (gLI tb'))] [Con Try.prog 73 [slLI false tb', I t16, I t27] true (I (lb3 tb' t16 t27)) ∧ ((false = true → true = true) ∧ 1 = 1 ∧ tb'.length = tb'.length ∧ ∀ i_, i_ < tb'.length → AV.idsL ((fLI false tb') i_) = [] ∧ leL (lookO [(8401, .fam tb'.length 1 (mLI tb') (gLI tb'))]) true ((oLI 8401 tb') i_) ((fLI false tb') i_)) ∧ True] ⟨⟨(leastBefore_ok tb' t16 t27 (by omega) (by omega) (fun q => by have := hrl q; omega) (fun q => by rw [hrz]; omega)), ⟨(fun h => by cases h), rfl, rfl, oleLI _ _ rfl⟩, trivial⟩, trivial⟩ ?_
      refine x_seq ?_
      refine x_seq ?_
      by_cases h3 : t16 = 0
      ·by_cases h4 : t27 = 0
       ·refine x_r [(1, .dec true), (4, .dec true)] [0, 1, 2, 7, 8, 9, 10, 15, 16, 26, 27, 39] [13, 8401] [slFeat false a, slFeat false b, I band, .arr 13, I t16, I t27, I (lb3 tb' t16 t27), I (a.length : Int), I t16, I (b.length : Int), I t27, Bv true] [some (.oar [8401] 1 tb'.length (oLI 8401 tb')), some (.fam tb'.length 1 (mLI tb') (gLI tb'))] [t16 = 0, t27 = 0] ⟨h3, h4, trivial⟩ ?_
        refine xe_then ?_
        refine x_true rfl ?_
        refine x_r [] [0, 1, 2, 7, 8, 9, 10, 15, 16, 26, 27] [13, 8401] [slFeat false a, slFeat false b, I band, .arr 13, I t16, I t27, I 0, I (a.length : Int), I t16, I (b.length : Int), I t27] [some (.oar [8401] 1 tb'.length (oLI 8401 tb')), some (.fam tb'.length 1 (mLI tb') (gLI tb'))] [] trivial ?_
        refine xe_then ?_
        refine x_seq ?_
        by_cases h5 : band < ((t16 - t27).natAbs : Int)
        ·refine x_r [(3, .call [(true, .any)] true (I ((t16 - t27).natAbs : Int))), (5, .dec true)] [0, 1, 2, 7, 8, 9, 10, 15, 16, 26, 27, 49] [13, 8401] [slFeat false a, slFeat false b, I band, .arr 13, I t16, I t27, I 0, I (a.length : Int), I t16, I (b.length : Int), I t27, Bv true] [some (.oar [8401] 1 tb'.length (oLI 8401 tb')), some (.fam tb'.length 1 (mLI tb') (gLI tb'))] [inR .i64 (t16 - t27), Con Try.prog 44 [I (t16 - t27)] true (I ((t16 - t27).natAbs : Int)) ∧ True, band < ((t16 - t27).natAbs : Int)] ⟨(inR_i64 (by omega) (by omega)), ⟨(abs_ok (t16 - t27) (by omega)), trivial⟩, h5, trivial⟩ ?_
         refine xe_then ?_
         refine x_true rfl ?_
         refine x_r [] [0, 1, 2, 7, 8, 15, 16, 26, 27] [13, 8401] [slFeat false a, slFeat false b, I band, .arr 13, I t16, I (a.length : Int), I t16, I (b.length : Int), I t27] [some (.oar [8401] 1 tb'.length (oLI 8401 tb')), some (.fam tb'.length 1 (mLI tb') (fun q => bif Nat.beq q t16.toNat then (fun q => bif Nat.beq q t27.toNat then [I 1099511627776] else (gLI tb') t16.toNat q) else (gLI tb') q))] [(0 : Int) ≤ t16 ∧ t16 < (tb'.length : Int), t16.toNat < tb'.length, t16.toNat < tb'.length ∧ (0 : Int) ≤ t27 ∧ t27 < (((at_ tb' t16.toNat).length) : Int), t16.toNat < tb'.length ∧ t27.toNat < (at_ tb' t16.toNat).length] ⟨⟨(by omega), (by omega)⟩, (by omega), ⟨(by omega), (by omega), (by omega)⟩, ⟨(by omega), (by omega)⟩, trivial⟩ ?_
         refine xe_block 3 ?_
         refine xe_then ?_
         refine x_weak [] (T := [(0, slFeat false a), (1, slFeat false b), (2, I band), (7, .arr 13), (8, I t16), (15, I (a.length : Int)), (16, I t16), (26, I (b.length : Int)), (27, I t27)]) (O := [(13, .oar [8401] 1 ((tb'.set t16.toNat ((at_ tb' t16.toNat).set t27.toNat 1099511627776)).length) (oLI 8401 (tb'.set t16.toNat ((at_ tb' t16.toNat).set t27.toNat 1099511627776)))), (8401, .fam (tb'.set t16.toNat ((at_ tb' t16.toNat).set t27.toNat 1099511627776)).length 1 (mLI (tb'.set t16.toNat ((at_ tb' t16.toNat).set t27.toNat 1099511627776))) (gLI (tb'.set t16.toNat ((at_ tb' t16.toNat).set t27.toNat 1099511627776))))]) rfl (⟨.inl rfl, .inl rfl, .inl rfl, .inl rfl, .inl rfl, .inl rfl, .inl rfl, .inl rfl, .inl rfl, trivial⟩) (⟨.inr ⟨rfl, rfl, (by first | rfl | (simp; done) | omega), fun i_ hi_ => .inl (osetLI 8401 t16.toNat tb' ((at_ tb' t16.toNat).set t27.toNat 1099511627776) i_)⟩, .inr (fsetLI (P := t16.toNat) (k := t27.toNat) ((by omega)) ((by omega)) (by simp only [Nat.beq_refl, cond_true]; try rfl) (by intro i hi; simp only [Nat.beq_refl, cond_true, beq_ne hi, cond_false]; try rfl) (by intro p hp; simp only [beq_ne hp, cond_false])), trivial⟩) ?_
         refine x_r [] [0, 1, 2, 7, 8, 15, 16, 26, 27] [13, 8401] [slFeat false a, slFeat false b, I band, .arr 13, I t16, I (a.length : Int), I t16, I (b.length : Int), I (t27 + 1)] [some (.oar [8401] 1 ((tb'.set t16.toNat ((at_ tb' t16.toNat).set t27.toNat 1099511627776)).length) (oLI 8401 (tb'.set t16.toNat ((at_ tb' t16.toNat).set t27.toNat 1099511627776)))), some (.fam (tb'.set t16.toNat ((at_ tb' t16.toNat).set t27.toNat 1099511627776)).length 1 (mLI (tb'.set t16.toNat ((at_ tb' t16.toNat).set t27.toNat 1099511627776))) (gLI (tb'.set t16.toNat ((at_ tb' t16.toNat).set t27.toNat 1099511627776))))] [inR .i64 (t27 + 1)] ⟨(inR_i64 (by omega) (by omega)), trivial⟩ ?_
         exact xe_again ((t27 + 1), (tb'.set t16.toNat ((at_ tb' t16.toNat).set t27.toNat 1099511627776))) rfl (show (0 ≤ (t27 + 1) ∧ (t27 + 1) ≤ (b.length : Int)) ∧ (tbOk a b band (tb'.set t16.toNat ((at_ tb' t16.toNat).set t27.toNat 1099511627776)) t16.toNat ∧ rowOk a b band (at_ (tb'.set t16.toNat ((at_ tb' t16.toNat).set t27.toNat 1099511627776)) t16.toNat) t16.toNat (t27 + 1).toNat) ∧ True from ⟨(by omega), (by rw [show (t27 + 1).toNat = t27.toNat + 1 from by omega]; exact tb_step hin.1 hin.2 hi hj (by rw [hlb.2]; first | exact (stp_far (by first | (left; rw [hix, hjx]; omega) | (right; (try rw [if_neg (by omega)]); (try rw [if_pos (by omega)]); omega))).symm | (rw [stp_add (by rw [hix, hjx]; omega) (by first | (rw [if_neg (by omega)]; omega) | (rw [if_pos (by omega)]; decide))]; first | rw [if_neg (by omega)] | rw [if_pos (by omega)]))), trivial⟩) (by first | (show (((b.length : Int) - (t27 + 1)).toNat : Nat) < ((b.length : Int) - t27).toNat; omega) | (dsimp only; omega))
        refine x_r [(3, .call [(true, .any)] true (I ((t16 - t27).natAbs : Int))), (5, .dec false), (8, .dec false)] [0, 1, 2, 7, 8, 9, 10, 15, 16, 26, 27, 49] [13, 8401] [slFeat false a, slFeat false b, I band, .arr 13, I t16, I t27, I 0, I (a.length : Int), I t16, I (b.length : Int), I t27, Bv false] [some (.oar [8401] 1 tb'.length (oLI 8401 tb')), some (.fam tb'.length 1 (mLI tb') (gLI tb'))] [inR .i64 (t16 - t27), Con Try.prog 44 [I (t16 - t27)] true (I ((t16 - t27).natAbs : Int)) ∧ True, ¬ (band < ((t16 - t27).natAbs : Int)), ¬ ((1099511627776 : Int) ≤ 0)] ⟨(inR_i64 (by omega) (by omega)), ⟨(abs_ok (t16 - t27) (by omega)), trivial⟩, h5, (by decide), trivial⟩ ?_
        refine xe_then ?_
        refine x_false rfl ?_
        refine x_r [(14, .call [(true, .any), (true, .any)] true (I (costF (at_ a t16.toNat) (at_ b t27.toNat))))] [0, 1, 2, 7, 8, 15, 16, 26, 27] [13, 8401] [slFeat false a, slFeat false b, I band, .arr 13, I t16, I (a.length : Int), I t16, I (b.length : Int), I t27] [some (.oar [8401] 1 tb'.length (oLI 8401 tb')), some (.fam tb'.length 1 (mLI tb') (fun q => bif Nat.beq q t16.toNat then (fun q => bif Nat.beq q t27.toNat then [I (0 + (costF (at_ a t16.toNat) (at_ b t27.toNat)))] else (gLI tb') t16.toNat q) else (gLI tb') q))] [(0 : Int) ≤ t16 ∧ t16 < (tb'.length : Int), t16.toNat < tb'.length, (0 : Int) ≤ t16 ∧ t16 < (a.length : Int), (0 : Int) ≤ t27 ∧ t27 < (b.length : Int), Con Try.prog 72 [agFeat (at_ a t16.toNat), agFeat (at_ b t27.toNat)] true (I (costF (at_ a t16.toNat) (at_ b t27.toNat))) ∧ True, inR .i64 (0 + (costF (at_ a t16.toNat) (at_ b t27.toNat))), t16.toNat < tb'.length ∧ (0 : Int) ≤ t27 ∧ t27 < (((at_ tb' t16.toNat).length) : Int), t16.toNat < tb'.length ∧ t27.toNat < (at_ tb' t16.toNat).length] ⟨⟨(by omega), (by omega)⟩, (by omega), ⟨(by omega), (by omega)⟩, ⟨(by omega), (by omega)⟩, ⟨(featCost_ok (at_ a t16.toNat) (at_ b t27.toNat) (by first | exact hab.1 _ (by omega) | exact hab.2.1 _ (by omega)) (by first | exact hab.1 _ (by omega) | exact hab.2.1 _ (by omega))), trivial⟩, (inR_i64 (by omega) (by omega)), ⟨(by omega), (by omega), (by omega)⟩, ⟨(by omega), (by omega)⟩, trivial⟩ ?_
        refine xe_block 3 ?_
        refine xe_then ?_
        refine x_weak [] (T := [(0, slFeat false a), (1, slFeat false b), (2, I band), (7, .arr 13), (8, I t16), (15, I (a.length : Int)), (16, I t16), (26, I (b.length : Int)), (27, I t27)]) (O := [(13, .oar [8401] 1 ((tb'.set t16.toNat ((at_ tb' t16.toNat).set t27.toNat (0 + (costF (at_ a t16.toNat) (at_ b t27.toNat))))).length) (oLI 8401 (tb'.set t16.toNat ((at_ tb' t16.toNat).set t27.toNat (0 + (costF (at_ a t16.toNat) (at_ b t27.toNat))))))), (8401, .fam (tb'.set t16.toNat ((at_ tb' t16.toNat).set t27.toNat (0 + (costF (at_ a t16.toNat) (at_ b t27.toNat))))).length 1 (mLI (tb'.set t16.toNat ((at_ tb' t16.toNat).set t27.toNat (0 + (costF (at_ a t16.toNat) (at_ b t27.toNat)))))) (gLI (tb'.set t16.toNat ((at_ tb' t16.toNat).set t27.toNat (0 + (costF (at_ a t16.toNat) (at_ b t27.toNat)))))))]) rfl (⟨.inl rfl, .inl rfl, .inl rfl, .inl rfl, .inl rfl, .inl rfl, .inl rfl, .inl rfl, .inl rfl, trivial⟩) (⟨.inr ⟨rfl, rfl, (by first | rfl | (simp; done) | omega), fun i_ hi_ => .inl (osetLI 8401 t16.toNat tb' ((at_ tb' t16.toNat).set t27.toNat (0 + (costF (at_ a t16.toNat) (at_ b t27.toNat)))) i_)⟩, .inr (fsetLI (P := t16.toNat) (k := t27.toNat) ((by omega)) ((by omega)) (by simp only [Nat.beq_refl, cond_true]; try rfl) (by intro i hi; simp only [Nat.beq_refl, cond_true, beq_ne hi, cond_false]; try rfl) (by intro p hp; simp only [beq_ne hp, cond_false])), trivial⟩) ?_
        refine x_r [] [0, 1, 2, 7, 8, 15, 16, 26, 27] [13, 8401] [slFeat false a, slFeat false b, I band, .arr 13, I t16, I (a.length : Int), I t16, I (b.length : Int), I (t27 + 1)] [some (.oar [8401] 1 ((tb'.set t16.toNat ((at_ tb' t16.toNat).set t27.toNat (0 + (costF (at_ a t16.toNat) (at_ b t27.toNat))))).length) (oLI 8401 (tb'.set t16.toNat ((at_ tb' t16.toNat).set t27.toNat (0 + (costF (at_ a t16.toNat) (at_ b t27.toNat))))))), some (.fam (tb'.set t16.toNat ((at_ tb' t16.toNat).set t27.toNat (0 + (costF (at_ a t16.toNat) (at_ b t27.toNat))))).length 1 (mLI (tb'.set t16.toNat ((at_ tb' t16.toNat).set t27.toNat (0 + (costF (at_ a t16.toNat) (at_ b t27.toNat)))))) (gLI (tb'.set t16.toNat ((at_ tb' t16.toNat).set t27.toNat (0 + (costF (at_ a t16.toNat) (at_ b t27.toNat)))))))] [inR .i64 (t27 + 1)] ⟨(inR_i64 (by omega) (by omega)), trivial⟩ ?_
        exact xe_again ((t27 + 1), (tb'.set t16.toNat ((at_ tb' t16.toNat).set t27.toNat (0 + (costF (at_ a t16.toNat) (at_ b t27.toNat)))))) rfl (show (0 ≤ (t27 + 1) ∧ (t27 + 1) ≤ (b.length : Int)) ∧ (tbOk a b band (tb'.set t16.toNat ((at_ tb' t16.toNat).set t27.toNat (0 + (costF (at_ a t16.toNat) (at_ b t27.toNat))))) t16.toNat ∧ rowOk a b band (at_ (tb'.set t16.toNat ((at_ tb' t16.toNat).set t27.toNat (0 + (costF (at_ a t16.toNat) (at_ b t27.toNat))))) t16.toNat) t16.toNat (t27 + 1).toNat) ∧ True from ⟨(by omega), (by rw [show (t27 + 1).toNat = t27.toNat + 1 from by omega]; exact tb_step hin.1 hin.2 hi hj (by rw [hlb.2]; first | exact (stp_far (by first | (left; rw [hix, hjx]; omega) | (right; (try rw [if_neg (by omega)]); (try rw [if_pos (by omega)]); omega))).symm | (rw [stp_add (by rw [hix, hjx]; omega) (by first | (rw [if_neg (by omega)]; omega) | (rw [if_pos (by omega)]; decide))]; first | rw [if_neg (by omega)] | rw [if_pos (by omega)]))), trivial⟩) (by first | (show (((b.length : Int) - (t27 + 1)).toNat : Nat) < ((b.length : Int) - t27).toNat; omega) | (dsimp only; omega))
       refine x_r [(1, .dec true), (4, .dec false)] [0, 1, 2, 7, 8, 9, 10, 15, 16, 26, 27, 39] [13, 8401] [slFeat false a, slFeat false b, I band, .arr 13, I t16, I t27, I (lb3 tb' t16 t27), I (a.length : Int), I t16, I (b.length : Int), I t27, Bv false] [some (.oar [8401] 1 tb'.length (oLI 8401 tb')), some (.fam tb'.length 1 (mLI tb') (gLI tb'))] [t16 = 0, ¬ (t27 = 0)] ⟨h3, h4, trivial⟩ ?_
       refine xe_then ?_
       refine x_false rfl ?_
       refine x_skip ?_
       refine xe_then ?_
       refine x_seq ?_
       by_cases h6 : band < ((t16 - t27).natAbs : Int)
       ·refine x_r [(3, .call [(true, .any)] true (I ((t16 - t27).natAbs : Int))), (5, .dec true)] [0, 1, 2, 7, 8, 9, 10, 15, 16, 26, 27, 49] [13, 8401] [slFeat false a, slFeat false b, I band, .arr 13, I t16, I t27, I (lb3 tb' t16 t27), I (a.length : Int), I t16, I (b.length : Int), I t27, Bv true] [some (.oar [8401] 1 tb'.length (oLI 8401 tb')), some (.fam tb'.length 1 (mLI tb') (gLI tb'))] [inR .i64 (t16 - t27), Con Try.prog 44 [I (t16 - t27)] true (I ((t16 - t27).natAbs : Int)) ∧ True, band < ((t16 - t27).natAbs : Int)] ⟨(inR_i64 (by omega) (by omega)), ⟨(abs_ok (t16 - t27) (by omega)), trivial⟩, h6, trivial⟩ ?_
        refine xe_then ?_
        refine x_true rfl ?_
        refine x_r [] [0, 1, 2, 7, 8, 15, 16, 26, 27] [13, 8401] [slFeat false a, slFeat false b, I band, .arr 13, I t16, I (a.length : Int), I t16, I (b.length : Int), I t27] [some (.oar [8401] 1 tb'.length (oLI 8401 tb')), some (.fam tb'.length 1 (mLI tb') (fun q => bif Nat.beq q t16.toNat then (fun q => bif Nat.beq q t27.toNat then [I 1099511627776] else (gLI tb') t16.toNat q) else (gLI tb') q))] [(0 : Int) ≤ t16 ∧ t16 < (tb'.length : Int), t16.toNat < tb'.length, t16.toNat < tb'.length ∧ (0 : Int) ≤ t27 ∧ t27 < (((at_ tb' t16.toNat).length) : Int), t16.toNat < tb'.length ∧ t27.toNat < (at_ tb' t16.toNat).length] ⟨⟨(by omega), (by omega)⟩, (by omega), ⟨(by omega), (by omega), (by omega)⟩, ⟨(by omega), (by omega)⟩, trivial⟩ ?_
        refine xe_block 3 ?_
        refine xe_then ?_
        refine x_weak [] (T := [(0, slFeat false a), (1, slFeat false b), (2, I band), (7, .arr 13), (8, I t16), (15, I (a.length : Int)), (16, I t16), (26, I (b.length : Int)), (27, I t27)]) (O := [(13, .oar [8401] 1 ((tb'.set t16.toNat ((at_ tb' t16.toNat).set t27.toNat 1099511627776)).length) (oLI 8401 (tb'.set t16.toNat ((at_ tb' t16.toNat).set t27.toNat 1099511627776)))), (8401, .fam (tb'.set t16.toNat ((at_ tb' t16.toNat).set t27.toNat 1099511627776)).length 1 (mLI (tb'.set t16.toNat ((at_ tb' t16.toNat).set t27.toNat 1099511627776))) (gLI (tb'.set t16.toNat ((at_ tb' t16.toNat).set t27.toNat 1099511627776))))]) rfl (⟨.inl rfl, .inl rfl, .inl rfl, .inl rfl, .inl rfl, .inl rfl, .inl rfl, .inl rfl, .inl rfl, trivial⟩) (⟨.inr ⟨rfl, rfl, (by first | rfl | (simp; done) | omega), fun i_ hi_ => .inl (osetLI 8401 t16.toNat tb' ((at_ tb' t16.toNat).set t27.toNat 1099511627776) i_)⟩, .inr (fsetLI (P := t16.toNat) (k := t27.toNat) ((by omega)) ((by omega)) (by simp only [Nat.beq_refl, cond_true]; try rfl) (by intro i hi; simp only [Nat.beq_refl, cond_true, beq_ne hi, cond_false]; try rfl) (by intro p hp; simp only [beq_ne hp, cond_false])), trivial⟩) ?_
        refine x_r [] [0, 1, 2, 7, 8, 15, 16, 26, 27] [13, 8401] [slFeat false a, slFeat false b, I band, .arr 13, I t16, I (a.length : Int), I t16, I (b.length : Int), I (t27 + 1)] [some (.oar [8401] 1 ((tb'.set t16.toNat ((at_ tb' t16.toNat).set t27.toNat 1099511627776)).length) (oLI 8401 (tb'.set t16.toNat ((at_ tb' t16.toNat).set t27.toNat 1099511627776)))), some (.fam (tb'.set t16.toNat ((at_ tb' t16.toNat).set t27.toNat 1099511627776)).length 1 (mLI (tb'.set t16.toNat ((at_ tb' t16.toNat).set t27.toNat 1099511627776))) (gLI (tb'.set t16.toNat ((at_ tb' t16.toNat).set t27.toNat 1099511627776))))] [inR .i64 (t27 + 1)] ⟨(inR_i64 (by omega) (by omega)), trivial⟩ ?_
        exact xe_again ((t27 + 1), (tb'.set t16.toNat ((at_ tb' t16.toNat).set t27.toNat 1099511627776))) rfl (show (0 ≤ (t27 + 1) ∧ (t27 + 1) ≤ (b.length : Int)) ∧ (tbOk a b band (tb'.set t16.toNat ((at_ tb' t16.toNat).set t27.toNat 1099511627776)) t16.toNat ∧ rowOk a b band (at_ (tb'.set t16.toNat ((at_ tb' t16.toNat).set t27.toNat 1099511627776)) t16.toNat) t16.toNat (t27 + 1).toNat) ∧ True from ⟨(by omega), (by rw [show (t27 + 1).toNat = t27.toNat + 1 from by omega]; exact tb_step hin.1 hin.2 hi hj (by rw [hlb.2]; first | exact (stp_far (by first | (left; rw [hix, hjx]; omega) | (right; (try rw [if_neg (by omega)]); (try rw [if_pos (by omega)]); omega))).symm | (rw [stp_add (by rw [hix, hjx]; omega) (by first | (rw [if_neg (by omega)]; omega) | (rw [if_pos (by omega)]; decide))]; first | rw [if_neg (by omega)] | rw [if_pos (by omega)]))), trivial⟩) (by first | (show (((b.length : Int) - (t27 + 1)).toNat : Nat) < ((b.length : Int) - t27).toNat; omega) | (dsimp only; omega))
       by_cases h7 : 1099511627776 ≤ (lb3 tb' t16 t27)
       ·refine x_r [(3, .call [(true, .any)] true (I ((t16 - t27).natAbs : Int))), (5, .dec false), (8, .dec true)] [0, 1, 2, 7, 8, 9, 10, 15, 16, 26, 27, 49] [13, 8401] [slFeat false a, slFeat false b, I band, .arr 13, I t16, I t27, I (lb3 tb' t16 t27), I (a.length : Int), I t16, I (b.length : Int), I t27, Bv true] [some (.oar [8401] 1 tb'.length (oLI 8401 tb')), some (.fam tb'.length 1 (mLI tb') (gLI tb'))] [inR .i64 (t16 - t27), Con Try.prog 44 [I (t16 - t27)] true (I ((t16 - t27).natAbs : Int)) ∧ True, ¬ (band < ((t16 - t27).natAbs : Int)), 1099511627776 ≤ (lb3 tb' t16 t27)] ⟨(inR_i64 (by omega) (by omega)), ⟨(abs_ok (t16 - t27) (by omega)), trivial⟩, h6, h7, trivial⟩ ?_
        refine xe_then ?_
        refine x_true rfl ?_
        refine x_r [] [0, 1, 2, 7, 8, 15, 16, 26, 27] [13, 8401] [slFeat false a, slFeat false b, I band, .arr 13, I t16, I (a.length : Int), I t16, I (b.length : Int), I t27] [some (.oar [8401] 1 tb'.length (oLI 8401 tb')), some (.fam tb'.length 1 (mLI tb') (fun q => bif Nat.beq q t16.toNat then (fun q => bif Nat.beq q t27.toNat then [I 1099511627776] else (gLI tb') t16.toNat q) else (gLI tb') q))] [(0 : Int) ≤ t16 ∧ t16 < (tb'.length : Int), t16.toNat < tb'.length, t16.toNat < tb'.length ∧ (0 : Int) ≤ t27 ∧ t27 < (((at_ tb' t16.toNat).length) : Int), t16.toNat < tb'.length ∧ t27.toNat < (at_ tb' t16.toNat).length] ⟨⟨(by omega), (by omega)⟩, (by omega), ⟨(by omega), (by omega), (by omega)⟩, ⟨(by omega), (by omega)⟩, trivial⟩ ?_
        refine xe_block 3 ?_
        refine xe_then ?_
        refine x_weak [] (T := [(0, slFeat false a), (1, slFeat false b), (2, I band), (7, .arr 13), (8, I t16), (15, I (a.length : Int)), (16, I t16), (26, I (b.length : Int)), (27, I t27)]) (O := [(13, .oar [8401] 1 ((tb'.set t16.toNat ((at_ tb' t16.toNat).set t27.toNat 1099511627776)).length) (oLI 8401 (tb'.set t16.toNat ((at_ tb' t16.toNat).set t27.toNat 1099511627776)))), (8401, .fam (tb'.set t16.toNat ((at_ tb' t16.toNat).set t27.toNat 1099511627776)).length 1 (mLI (tb'.set t16.toNat ((at_ tb' t16.toNat).set t27.toNat 1099511627776))) (gLI (tb'.set t16.toNat ((at_ tb' t16.toNat).set t27.toNat 1099511627776))))]) rfl (⟨.inl rfl, .inl rfl, .inl rfl, .inl rfl, .inl rfl, .inl rfl, .inl rfl, .inl rfl, .inl rfl, trivial⟩) (⟨.inr ⟨rfl, rfl, (by first | rfl | (simp; done) | omega), fun i_ hi_ => .inl (osetLI 8401 t16.toNat tb' ((at_ tb' t16.toNat).set t27.toNat 1099511627776) i_)⟩, .inr (fsetLI (P := t16.toNat) (k := t27.toNat) ((by omega)) ((by omega)) (by simp only [Nat.beq_refl, cond_true]; try rfl) (by intro i hi; simp only [Nat.beq_refl, cond_true, beq_ne hi, cond_false]; try rfl) (by intro p hp; simp only [beq_ne hp, cond_false])), trivial⟩) ?_
        refine x_r [] [0, 1, 2, 7, 8, 15, 16, 26, 27] [13, 8401] [slFeat false a, slFeat false b, I band, .arr 13, I t16, I (a.length : Int), I t16, I (b.length : Int), I (t27 + 1)] [some (.oar [8401] 1 ((tb'.set t16.toNat ((at_ tb' t16.toNat).set t27.toNat 1099511627776)).length) (oLI 8401 (tb'.set t16.toNat ((at_ tb' t16.toNat).set t27.toNat 1099511627776)))), some (.fam (tb'.set t16.toNat ((at_ tb' t16.toNat).set t27.toNat 1099511627776)).length 1 (mLI (tb'.set t16.toNat ((at_ tb' t16.toNat).set t27.toNat 1099511627776))) (gLI (tb'.set t16.toNat ((at_ tb' t16.toNat).set t27.toNat 1099511627776))))] [inR .i64 (t27 + 1)] ⟨(inR_i64 (by omega) (by omega)), trivial⟩ ?_
        exact xe_again ((t27 + 1), (tb'.set t16.toNat ((at_ tb' t16.toNat).set t27.toNat 1099511627776))) rfl (show (0 ≤ (t27 + 1) ∧ (t27 + 1) ≤ (b.length : Int)) ∧ (tbOk a b band (tb'.set t16.toNat ((at_ tb' t16.toNat).set t27.toNat 1099511627776)) t16.toNat ∧ rowOk a b band (at_ (tb'.set t16.toNat ((at_ tb' t16.toNat).set t27.toNat 1099511627776)) t16.toNat) t16.toNat (t27 + 1).toNat) ∧ True from ⟨(by omega), (by rw [show (t27 + 1).toNat = t27.toNat + 1 from by omega]; exact tb_step hin.1 hin.2 hi hj (by rw [hlb.2]; first | exact (stp_far (by first | (left; rw [hix, hjx]; omega) | (right; (try rw [if_neg (by omega)]); (try rw [if_pos (by omega)]); omega))).symm | (rw [stp_add (by rw [hix, hjx]; omega) (by first | (rw [if_neg (by omega)]; omega) | (rw [if_pos (by omega)]; decide))]; first | rw [if_neg (by omega)] | rw [if_pos (by omega)]))), trivial⟩) (by first | (show (((b.length : Int) - (t27 + 1)).toNat : Nat) < ((b.length : Int) - t27).toNat; omega) | (dsimp only; omega))
       refine x_r [(3, .call [(true, .any)] true (I ((t16 - t27).natAbs : Int))), (5, .dec false), (8, .dec false)] [0, 1, 2, 7, 8, 9, 10, 15, 16, 26, 27, 49] [13, 8401] [slFeat false a, slFeat false b, I band, .arr 13, I t16, I t27, I (lb3 tb' t16 t27), I (a.length : Int), I t16, I (b.length : Int), I t27, Bv false] [some (.oar [8401] 1 tb'.length (oLI 8401 tb')), some (.fam tb'.length 1 (mLI tb') (gLI tb'))] [inR .i64 (t16 - t27), Con Try.prog 44 [I (t16 - t27)] true (I ((t16 - t27).natAbs : Int)) ∧ True, ¬ (band < ((t16 - t27).natAbs : Int)), ¬ (1099511627776 ≤ (lb3 tb' t16 t27))] ⟨(inR_i64 (by omega) (by omega)), ⟨(abs_ok (t16 - t27) (by omega)), trivial⟩, h6, h7, trivial⟩ ?_
       refine xe_then ?_
       refine x_false rfl ?_
       refine x_r [(14, .call [(true, .any), (true, .any)] true (I (costF (at_ a t16.toNat) (at_ b t27.toNat))))] [0, 1, 2, 7, 8, 15, 16, 26, 27] [13, 8401] [slFeat false a, slFeat false b, I band, .arr 13, I t16, I (a.length : Int), I t16, I (b.length : Int), I t27] [some (.oar [8401] 1 tb'.length (oLI 8401 tb')), some (.fam tb'.length 1 (mLI tb') (fun q => bif Nat.beq q t16.toNat then (fun q => bif Nat.beq q t27.toNat then [I ((lb3 tb' t16 t27) + (costF (at_ a t16.toNat) (at_ b t27.toNat)))] else (gLI tb') t16.toNat q) else (gLI tb') q))] [(0 : Int) ≤ t16 ∧ t16 < (tb'.length : Int), t16.toNat < tb'.length, (0 : Int) ≤ t16 ∧ t16 < (a.length : Int), (0 : Int) ≤ t27 ∧ t27 < (b.length : Int), Con Try.prog 72 [agFeat (at_ a t16.toNat), agFeat (at_ b t27.toNat)] true (I (costF (at_ a t16.toNat) (at_ b t27.toNat))) ∧ True, inR .i64 ((lb3 tb' t16 t27) + (costF (at_ a t16.toNat) (at_ b t27.toNat))), t16.toNat < tb'.length ∧ (0 : Int) ≤ t27 ∧ t27 < (((at_ tb' t16.toNat).length) : Int), t16.toNat < tb'.length ∧ t27.toNat < (at_ tb' t16.toNat).length] ⟨⟨(by omega), (by omega)⟩, (by omega), ⟨(by omega), (by omega)⟩, ⟨(by omega), (by omega)⟩, ⟨(featCost_ok (at_ a t16.toNat) (at_ b t27.toNat) (by first | exact hab.1 _ (by omega) | exact hab.2.1 _ (by omega)) (by first | exact hab.1 _ (by omega) | exact hab.2.1 _ (by omega))), trivial⟩, (inR_i64 (by omega) (by omega)), ⟨(by omega), (by omega), (by omega)⟩, ⟨(by omega), (by omega)⟩, trivial⟩ ?_
       refine xe_block 3 ?_
       refine xe_then ?_
       refine x_weak [] (T := [(0, slFeat false a), (1, slFeat false b), (2, I band), (7, .arr 13), (8, I t16), (15, I (a.length : Int)), (16, I t16), (26, I (b.length : Int)), (27, I t27)]) (O := [(13, .oar [8401] 1 ((tb'.set t16.toNat ((at_ tb' t16.toNat).set t27.toNat ((lb3 tb' t16 t27) + (costF (at_ a t16.toNat) (at_ b t27.toNat))))).length) (oLI 8401 (tb'.set t16.toNat ((at_ tb' t16.toNat).set t27.toNat ((lb3 tb' t16 t27) + (costF (at_ a t16.toNat) (at_ b t27.toNat))))))), (8401, .fam (tb'.set t16.toNat ((at_ tb' t16.toNat).set t27.toNat ((lb3 tb' t16 t27) + (costF (at_ a t16.toNat) (at_ b t27.toNat))))).length 1 (mLI (tb'.set t16.toNat ((at_ tb' t16.toNat).set t27.toNat ((lb3 tb' t16 t27) + (costF (at_ a t16.toNat) (at_ b t27.toNat)))))) (gLI (tb'.set t16.toNat ((at_ tb' t16.toNat).set t27.toNat ((lb3 tb' t16 t27) + (costF (at_ a t16.toNat) (at_ b t27.toNat)))))))]) rfl (⟨.inl rfl, .inl rfl, .inl rfl, .inl rfl, .inl rfl, .inl rfl, .inl rfl, .inl rfl, .inl rfl, trivial⟩) (⟨.inr ⟨rfl, rfl, (by first | rfl | (simp; done) | omega), fun i_ hi_ => .inl (osetLI 8401 t16.toNat tb' ((at_ tb' t16.toNat).set t27.toNat ((lb3 tb' t16 t27) + (costF (at_ a t16.toNat) (at_ b t27.toNat)))) i_)⟩, .inr (fsetLI (P := t16.toNat) (k := t27.toNat) ((by omega)) ((by omega)) (by simp only [Nat.beq_refl, cond_true]; try rfl) (by intro i hi; simp only [Nat.beq_refl, cond_true, beq_ne hi, cond_false]; try rfl) (by intro p hp; simp only [beq_ne hp, cond_false])), trivial⟩) ?_
       refine x_r [] [0, 1, 2, 7, 8, 15, 16, 26, 27] [13, 8401] [slFeat false a, slFeat false b, I band, .arr 13, I t16, I (a.length : Int), I t16, I (b.length : Int), I (t27 + 1)] [some (.oar [8401] 1 ((tb'.set t16.toNat ((at_ tb' t16.toNat).set t27.toNat ((lb3 tb' t16 t27) + (costF (at_ a t16.toNat) (at_ b t27.toNat))))).length) (oLI 8401 (tb'.set t16.toNat ((at_ tb' t16.toNat).set t27.toNat ((lb3 tb' t16 t27) + (costF (at_ a t16.toNat) (at_ b t27.toNat))))))), some (.fam (tb'.set t16.toNat ((at_ tb' t16.toNat).set t27.toNat ((lb3 tb' t16 t27) + (costF (at_ a t16.toNat) (at_ b t27.toNat))))).length 1 (mLI (tb'.set t16.toNat ((at_ tb' t16.toNat).set t27.toNat ((lb3 tb' t16 t27) + (costF (at_ a t16.toNat) (at_ b t27.toNat)))))) (gLI (tb'.set t16.toNat ((at_ tb' t16.toNat).set t27.toNat ((lb3 tb' t16 t27) + (costF (at_ a t16.toNat) (at_ b t27.toNat)))))))] [inR .i64 (t27 + 1)] ⟨(inR_i64 (by omega) (by omega)), trivial⟩ ?_
       exact xe_again ((t27 + 1), (tb'.set t16.toNat ((at_ tb' t16.toNat).set t27.toNat ((lb3 tb' t16 t27) + (costF (at_ a t16.toNat) (at_ b t27.toNat)))))) rfl (show (0 ≤ (t27 + 1) ∧ (t27 + 1) ≤ (b.length : Int)) ∧ (tbOk a b band (tb'.set t16.toNat ((at_ tb' t16.toNat).set t27.toNat ((lb3 tb' t16 t27) + (costF (at_ a t16.toNat) (at_ b t27.toNat))))) t16.toNat ∧ rowOk a b band (at_ (tb'.set t16.toNat ((at_ tb' t16.toNat).set t27.toNat ((lb3 tb' t16 t27) + (costF (at_ a t16.toNat) (at_ b t27.toNat))))) t16.toNat) t16.toNat (t27 + 1).toNat) ∧ True from ⟨(by omega), (by rw [show (t27 + 1).toNat = t27.toNat + 1 from by omega]; exact tb_step hin.1 hin.2 hi hj (by rw [hlb.2]; first | exact (stp_far (by first | (left; rw [hix, hjx]; omega) | (right; (try rw [if_neg (by omega)]); (try rw [if_pos (by omega)]); omega))).symm | (rw [stp_add (by rw [hix, hjx]; omega) (by first | (rw [if_neg (by omega)]; omega) | (rw [if_pos (by omega)]; decide))]; first | rw [if_neg (by omega)] | rw [if_pos (by omega)]))), trivial⟩) (by first | (show (((b.length : Int) - (t27 + 1)).toNat : Nat) < ((b.length : Int) - t27).toNat; omega) | (dsimp only; omega))
      refine x_r [(1, .dec false)] [0, 1, 2, 7, 8, 9, 10, 15, 16, 26, 27, 39] [13, 8401] [slFeat false a, slFeat false b, I band, .arr 13, I t16, I t27, I (lb3 tb' t16 t27), I (a.length : Int), I t16, I (b.length : Int), I t27, Bv false] [some (.oar [8401] 1 tb'.length (oLI 8401 tb')), some (.fam tb'.length 1 (mLI tb') (gLI tb'))] [¬ (t16 = 0)] ⟨h3, trivial⟩ ?_
      refine xe_then ?_
      refine x_false rfl ?_
      refine x_skip ?_
      refine xe_then ?_
      refine x_seq ?_
      by_cases h8 : band < ((t16 - t27).natAbs : Int)
      ·refine x_r [(3, .call [(true, .any)] true (I ((t16 - t27).natAbs : Int))), (5, .dec true)] [0, 1, 2, 7, 8, 9, 10, 15, 16, 26, 27, 49] [13, 8401] [slFeat false a, slFeat false b, I band, .arr 13, I t16, I t27, I (lb3 tb' t16 t27), I (a.length : Int), I t16, I (b.length : Int), I t27, Bv true] [some (.oar [8401] 1 tb'.length (oLI 8401 tb')), some (.fam tb'.length 1 (mLI tb') (gLI tb'))] [inR .i64 (t16 - t27), Con Try.prog 44 [I (t16 - t27)] true (I ((t16 - t27).natAbs : Int)) ∧ True, band < ((t16 - t27).natAbs : Int)] ⟨(inR_i64 (by omega) (by omega)), ⟨(abs_ok (t16 - t27) (by omega)), trivial⟩, h8, trivial⟩ ?_
       refine xe_then ?_
       refine x_true rfl ?_
       refine x_r [] [0, 1, 2, 7, 8, 15, 16, 26, 27] [13, 8401] [slFeat false a, slFeat false b, I band, .arr 13, I t16, I (a.length : Int), I t16, I (b.length : Int), I t27] [some (.oar [8401] 1 tb'.length (oLI 8401 tb')), some (.fam tb'.length 1 (mLI tb') (fun q => bif Nat.beq q t16.toNat then (fun q => bif Nat.beq q t27.toNat then [I 1099511627776] else (gLI tb') t16.toNat q) else (gLI tb') q))] [(0 : Int) ≤ t16 ∧ t16 < (tb'.length : Int), t16.toNat < tb'.length, t16.toNat < tb'.length ∧ (0 : Int) ≤ t27 ∧ t27 < (((at_ tb' t16.toNat).length) : Int), t16.toNat < tb'.length ∧ t27.toNat < (at_ tb' t16.toNat).length] ⟨⟨(by omega), (by omega)⟩, (by omega), ⟨(by omega), (by omega), (by omega)⟩, ⟨(by omega), (by omega)⟩, trivial⟩ ?_
       refine xe_block 3 ?_
       refine xe_then ?_
       refine x_weak [] (T := [(0, slFeat false a), (1, slFeat false b), (2, I band), (7, .arr 13), (8, I t16), (15, I (a.length : Int)), (16, I t16), (26, I (b.length : Int)), (27, I t27)]) (O := [(13, .oar [8401] 1 ((tb'.set t16.toNat ((at_ tb' t16.toNat).set t27.toNat 1099511627776)).length) (oLI 8401 (tb'.set t16.toNat ((at_ tb' t16.toNat).set t27.toNat 1099511627776)))), (8401, .fam (tb'.set t16.toNat ((at_ tb' t16.toNat).set t27.toNat 1099511627776)).length 1 (mLI (tb'.set t16.toNat ((at_ tb' t16.toNat).set t27.toNat 1099511627776))) (gLI (tb'.set t16.toNat ((at_ tb' t16.toNat).set t27.toNat 1099511627776))))]) rfl (⟨.inl rfl, .inl rfl, .inl rfl, .inl rfl, .inl rfl, .inl rfl, .inl rfl, .inl rfl, .inl rfl, trivial⟩) (⟨.inr ⟨rfl, rfl, (by first | rfl | (simp; done) | omega), fun i_ hi_ => .inl (osetLI 8401 t16.toNat tb' ((at_ tb' t16.toNat).set t27.toNat 1099511627776) i_)⟩, .inr (fsetLI (P := t16.toNat) (k := t27.toNat) ((by omega)) ((by omega)) (by simp only [Nat.beq_refl, cond_true]; try rfl) (by intro i hi; simp only [Nat.beq_refl, cond_true, beq_ne hi, cond_false]; try rfl) (by intro p hp; simp only [beq_ne hp, cond_false])), trivial⟩) ?_
       refine x_r [] [0, 1, 2, 7, 8, 15, 16, 26, 27] [13, 8401] [slFeat false a, slFeat false b, I band, .arr 13, I t16, I (a.length : Int), I t16, I (b.length : Int), I (t27 + 1)] [some (.oar [8401] 1 ((tb'.set t16.toNat ((at_ tb' t16.toNat).set t27.toNat 1099511627776)).length) (oLI 8401 (tb'.set t16.toNat ((at_ tb' t16.toNat).set t27.toNat 1099511627776)))), some (.fam (tb'.set t16.toNat ((at_ tb' t16.toNat).set t27.toNat 1099511627776)).length 1 (mLI (tb'.set t16.toNat ((at_ tb' t16.toNat).set t27.toNat 1099511627776))) (gLI (tb'.set t16.toNat ((at_ tb' t16.toNat).set t27.toNat 1099511627776))))] [inR .i64 (t27 + 1)] ⟨(inR_i64 (by omega) (by omega)), trivial⟩ ?_
       exact xe_again ((t27 + 1), (tb'.set t16.toNat ((at_ tb' t16.toNat).set t27.toNat 1099511627776))) rfl (show (0 ≤ (t27 + 1) ∧ (t27 + 1) ≤ (b.length : Int)) ∧ (tbOk a b band (tb'.set t16.toNat ((at_ tb' t16.toNat).set t27.toNat 1099511627776)) t16.toNat ∧ rowOk a b band (at_ (tb'.set t16.toNat ((at_ tb' t16.toNat).set t27.toNat 1099511627776)) t16.toNat) t16.toNat (t27 + 1).toNat) ∧ True from ⟨(by omega), (by rw [show (t27 + 1).toNat = t27.toNat + 1 from by omega]; exact tb_step hin.1 hin.2 hi hj (by rw [hlb.2]; first | exact (stp_far (by first | (left; rw [hix, hjx]; omega) | (right; (try rw [if_neg (by omega)]); (try rw [if_pos (by omega)]); omega))).symm | (rw [stp_add (by rw [hix, hjx]; omega) (by first | (rw [if_neg (by omega)]; omega) | (rw [if_pos (by omega)]; decide))]; first | rw [if_neg (by omega)] | rw [if_pos (by omega)]))), trivial⟩) (by first | (show (((b.length : Int) - (t27 + 1)).toNat : Nat) < ((b.length : Int) - t27).toNat; omega) | (dsimp only; omega))
      by_cases h9 : 1099511627776 ≤ (lb3 tb' t16 t27)
      ·refine x_r [(3, .call [(true, .any)] true (I ((t16 - t27).natAbs : Int))), (5, .dec false), (8, .dec true)] [0, 1, 2, 7, 8, 9, 10, 15, 16, 26, 27, 49] [13, 8401] [slFeat false a, slFeat false b, I band, .arr 13, I t16, I t27, I (lb3 tb' t16 t27), I (a.length : Int), I t16, I (b.length : Int), I t27, Bv true] [some (.oar [8401] 1 tb'.length (oLI 8401 tb')), some (.fam tb'.length 1 (mLI tb') (gLI tb'))] [inR .i64 (t16 - t27), Con Try.prog 44 [I (t16 - t27)] true (I ((t16 - t27).natAbs : Int)) ∧ True, ¬ (band < ((t16 - t27).natAbs : Int)), 1099511627776 ≤ (lb3 tb' t16 t27)] ⟨(inR_i64 (by omega) (by omega)), ⟨(abs_ok (t16 - t27) (by omega)), trivial⟩, h8, h9, trivial⟩ ?_
       refine xe_then ?_
       refine x_true rfl ?_
       refine x_r [] [0, 1, 2, 7, 8, 15, 16, 26, 27] [13, 8401] [slFeat false a, slFeat false b, I band, .arr 13, I t16, I (a.length : Int), I t16, I (b.length : Int), I t27] [some (.oar [8401] 1 tb'.length (oLI 8401 tb')), some (.fam tb'.length 1 (mLI tb') (fun q => bif Nat.beq q t16.toNat then (fun q => bif Nat.beq q t27.toNat then [I 1099511627776] else (gLI tb') t16.toNat q) else (gLI tb') q))] [(0 : Int) ≤ t16 ∧ t16 < (tb'.length : Int), t16.toNat < tb'.length, t16.toNat < tb'.length ∧ (0 : Int) ≤ t27 ∧ t27 < (((at_ tb' t16.toNat).length) : Int), t16.toNat < tb'.length ∧ t27.toNat < (at_ tb' t16.toNat).length] ⟨⟨(by omega), (by omega)⟩, (by omega), ⟨(by omega), (by omega), (by omega)⟩, ⟨(by omega), (by omega)⟩, trivial⟩ ?_
       refine xe_block 3 ?_
       refine xe_then ?_
       refine x_weak [] (T := [(0, slFeat false a), (1, slFeat false b), (2, I band), (7, .arr 13), (8, I t16), (15, I (a.length : Int)), (16, I t16), (26, I (b.length : Int)), (27, I t27)]) (O := [(13, .oar [8401] 1 ((tb'.set t16.toNat ((at_ tb' t16.toNat).set t27.toNat 1099511627776)).length) (oLI 8401 (tb'.set t16.toNat ((at_ tb' t16.toNat).set t27.toNat 1099511627776)))), (8401, .fam (tb'.set t16.toNat ((at_ tb' t16.toNat).set t27.toNat 1099511627776)).length 1 (mLI (tb'.set t16.toNat ((at_ tb' t16.toNat).set t27.toNat 1099511627776))) (gLI (tb'.set t16.toNat ((at_ tb' t16.toNat).set t27.toNat 1099511627776))))]) rfl (⟨.inl rfl, .inl rfl, .inl rfl, .inl rfl, .inl rfl, .inl rfl, .inl rfl, .inl rfl, .inl rfl, trivial⟩) (⟨.inr ⟨rfl, rfl, (by first | rfl | (simp; done) | omega), fun i_ hi_ => .inl (osetLI 8401 t16.toNat tb' ((at_ tb' t16.toNat).set t27.toNat 1099511627776) i_)⟩, .inr (fsetLI (P := t16.toNat) (k := t27.toNat) ((by omega)) ((by omega)) (by simp only [Nat.beq_refl, cond_true]; try rfl) (by intro i hi; simp only [Nat.beq_refl, cond_true, beq_ne hi, cond_false]; try rfl) (by intro p hp; simp only [beq_ne hp, cond_false])), trivial⟩) ?_
       refine x_r [] [0, 1, 2, 7, 8, 15, 16, 26, 27] [13, 8401] [slFeat false a, slFeat false b, I band, .arr 13, I t16, I (a.length : Int), I t16, I (b.length : Int), I (t27 + 1)] [some (.oar [8401] 1 ((tb'.set t16.toNat ((at_ tb' t16.toNat).set t27.toNat 1099511627776)).length) (oLI 8401 (tb'.set t16.toNat ((at_ tb' t16.toNat).set t27.toNat 1099511627776)))), some (.fam (tb'.set t16.toNat ((at_ tb' t16.toNat).set t27.toNat 1099511627776)).length 1 (mLI (tb'.set t16.toNat ((at_ tb' t16.toNat).set t27.toNat 1099511627776))) (gLI (tb'.set t16.toNat ((at_ tb' t16.toNat).set t27.toNat 1099511627776))))] [inR .i64 (t27 + 1)] ⟨(inR_i64 (by omega) (by omega)), trivial⟩ ?_
       exact xe_again ((t27 + 1), (tb'.set t16.toNat ((at_ tb' t16.toNat).set t27.toNat 1099511627776))) rfl (show (0 ≤ (t27 + 1) ∧ (t27 + 1) ≤ (b.length : Int)) ∧ (tbOk a b band (tb'.set t16.toNat ((at_ tb' t16.toNat).set t27.toNat 1099511627776)) t16.toNat ∧ rowOk a b band (at_ (tb'.set t16.toNat ((at_ tb' t16.toNat).set t27.toNat 1099511627776)) t16.toNat) t16.toNat (t27 + 1).toNat) ∧ True from ⟨(by omega), (by rw [show (t27 + 1).toNat = t27.toNat + 1 from by omega]; exact tb_step hin.1 hin.2 hi hj (by rw [hlb.2]; first | exact (stp_far (by first | (left; rw [hix, hjx]; omega) | (right; (try rw [if_neg (by omega)]); (try rw [if_pos (by omega)]); omega))).symm | (rw [stp_add (by rw [hix, hjx]; omega) (by first | (rw [if_neg (by omega)]; omega) | (rw [if_pos (by omega)]; decide))]; first | rw [if_neg (by omega)] | rw [if_pos (by omega)]))), trivial⟩) (by first | (show (((b.length : Int) - (t27 + 1)).toNat : Nat) < ((b.length : Int) - t27).toNat; omega) | (dsimp only; omega))
      refine x_r [(3, .call [(true, .any)] true (I ((t16 - t27).natAbs : Int))), (5, .dec false), (8, .dec false)] [0, 1, 2, 7, 8, 9, 10, 15, 16, 26, 27, 49] [13, 8401] [slFeat false a, slFeat false b, I band, .arr 13, I t16, I t27, I (lb3 tb' t16 t27), I (a.length : Int), I t16, I (b.length : Int), I t27, Bv false] [some (.oar [8401] 1 tb'.length (oLI 8401 tb')), some (.fam tb'.length 1 (mLI tb') (gLI tb'))] [inR .i64 (t16 - t27), Con Try.prog 44 [I (t16 - t27)] true (I ((t16 - t27).natAbs : Int)) ∧ True, ¬ (band < ((t16 - t27).natAbs : Int)), ¬ (1099511627776 ≤ (lb3 tb' t16 t27))] ⟨(inR_i64 (by omega) (by omega)), ⟨(abs_ok (t16 - t27) (by omega)), trivial⟩, h8, h9, trivial⟩ ?_
      refine xe_then ?_
      refine x_false rfl ?_
      refine x_r [(14, .call [(true, .any), (true, .any)] true (I (costF (at_ a t16.toNat) (at_ b t27.toNat))))] [0, 1, 2, 7, 8, 15, 16, 26, 27] [13, 8401] [slFeat false a, slFeat false b, I band, .arr 13, I t16, I (a.length : Int), I t16, I (b.length : Int), I t27] [some (.oar [8401] 1 tb'.length (oLI 8401 tb')), some (.fam tb'.length 1 (mLI tb') (fun q => bif Nat.beq q t16.toNat then (fun q => bif Nat.beq q t27.toNat then [I ((lb3 tb' t16 t27) + (costF (at_ a t16.toNat) (at_ b t27.toNat)))] else (gLI tb') t16.toNat q) else (gLI tb') q))] [(0 : Int) ≤ t16 ∧ t16 < (tb'.length : Int), t16.toNat < tb'.length, (0 : Int) ≤ t16 ∧ t16 < (a.length : Int), (0 : Int) ≤ t27 ∧ t27 < (b.length : Int), Con Try.prog 72 [agFeat (at_ a t16.toNat), agFeat (at_ b t27.toNat)] true (I (costF (at_ a t16.toNat) (at_ b t27.toNat))) ∧ True, inR .i64 ((lb3 tb' t16 t27) + (costF (at_ a t16.toNat) (at_ b t27.toNat))), t16.toNat < tb'.length ∧ (0 : Int) ≤ t27 ∧ t27 < (((at_ tb' t16.toNat).length) : Int), t16.toNat < tb'.length ∧ t27.toNat < (at_ tb' t16.toNat).length] ⟨⟨(by omega), (by omega)⟩, (by omega), ⟨(by omega), (by omega)⟩, ⟨(by omega), (by omega)⟩, ⟨(featCost_ok (at_ a t16.toNat) (at_ b t27.toNat) (by first | exact hab.1 _ (by omega) | exact hab.2.1 _ (by omega)) (by first | exact hab.1 _ (by omega) | exact hab.2.1 _ (by omega))), trivial⟩, (inR_i64 (by omega) (by omega)), ⟨(by omega), (by omega), (by omega)⟩, ⟨(by omega), (by omega)⟩, trivial⟩ ?_
      refine xe_block 3 ?_
      refine xe_then ?_
      refine x_weak [] (T := [(0, slFeat false a), (1, slFeat false b), (2, I band), (7, .arr 13), (8, I t16), (15, I (a.length : Int)), (16, I t16), (26, I (b.length : Int)), (27, I t27)]) (O := [(13, .oar [8401] 1 ((tb'.set t16.toNat ((at_ tb' t16.toNat).set t27.toNat ((lb3 tb' t16 t27) + (costF (at_ a t16.toNat) (at_ b t27.toNat))))).length) (oLI 8401 (tb'.set t16.toNat ((at_ tb' t16.toNat).set t27.toNat ((lb3 tb' t16 t27) + (costF (at_ a t16.toNat) (at_ b t27.toNat))))))), (8401, .fam (tb'.set t16.toNat ((at_ tb' t16.toNat).set t27.toNat ((lb3 tb' t16 t27) + (costF (at_ a t16.toNat) (at_ b t27.toNat))))).length 1 (mLI (tb'.set t16.toNat ((at_ tb' t16.toNat).set t27.toNat ((lb3 tb' t16 t27) + (costF (at_ a t16.toNat) (at_ b t27.toNat)))))) (gLI (tb'.set t16.toNat ((at_ tb' t16.toNat).set t27.toNat ((lb3 tb' t16 t27) + (costF (at_ a t16.toNat) (at_ b t27.toNat)))))))]) rfl (⟨.inl rfl, .inl rfl, .inl rfl, .inl rfl, .inl rfl, .inl rfl, .inl rfl, .inl rfl, .inl rfl, trivial⟩) (⟨.inr ⟨rfl, rfl, (by first | rfl | (simp; done) | omega), fun i_ hi_ => .inl (osetLI 8401 t16.toNat tb' ((at_ tb' t16.toNat).set t27.toNat ((lb3 tb' t16 t27) + (costF (at_ a t16.toNat) (at_ b t27.toNat)))) i_)⟩, .inr (fsetLI (P := t16.toNat) (k := t27.toNat) ((by omega)) ((by omega)) (by simp only [Nat.beq_refl, cond_true]; try rfl) (by intro i hi; simp only [Nat.beq_refl, cond_true, beq_ne hi, cond_false]; try rfl) (by intro p hp; simp only [beq_ne hp, cond_false])), trivial⟩) ?_
      refine x_r [] [0, 1, 2, 7, 8, 15, 16, 26, 27] [13, 8401] [slFeat false a, slFeat false b, I band, .arr 13, I t16, I (a.length : Int), I t16, I (b.length : Int), I (t27 + 1)] [some (.oar [8401] 1 ((tb'.set t16.toNat ((at_ tb' t16.toNat).set t27.toNat ((lb3 tb' t16 t27) + (costF (at_ a t16.toNat) (at_ b t27.toNat))))).length) (oLI 8401 (tb'.set t16.toNat ((at_ tb' t16.toNat).set t27.toNat ((lb3 tb' t16 t27) + (costF (at_ a t16.toNat) (at_ b t27.toNat))))))), some (.fam (tb'.set t16.toNat ((at_ tb' t16.toNat).set t27.toNat ((lb3 tb' t16 t27) + (costF (at_ a t16.toNat) (at_ b t27.toNat))))).length 1 (mLI (tb'.set t16.toNat ((at_ tb' t16.toNat).set t27.toNat ((lb3 tb' t16 t27) + (costF (at_ a t16.toNat) (at_ b t27.toNat)))))) (gLI (tb'.set t16.toNat ((at_ tb' t16.toNat).set t27.toNat ((lb3 tb' t16 t27) + (costF (at_ a t16.toNat) (at_ b t27.toNat)))))))] [inR .i64 (t27 + 1)] ⟨(inR_i64 (by omega) (by omega)), trivial⟩ ?_
      exact xe_again ((t27 + 1), (tb'.set t16.toNat ((at_ tb' t16.toNat).set t27.toNat ((lb3 tb' t16 t27) + (costF (at_ a t16.toNat) (at_ b t27.toNat)))))) rfl (show (0 ≤ (t27 + 1) ∧ (t27 + 1) ≤ (b.length : Int)) ∧ (tbOk a b band (tb'.set t16.toNat ((at_ tb' t16.toNat).set t27.toNat ((lb3 tb' t16 t27) + (costF (at_ a t16.toNat) (at_ b t27.toNat))))) t16.toNat ∧ rowOk a b band (at_ (tb'.set t16.toNat ((at_ tb' t16.toNat).set t27.toNat ((lb3 tb' t16 t27) + (costF (at_ a t16.toNat) (at_ b t27.toNat))))) t16.toNat) t16.toNat (t27 + 1).toNat) ∧ True from ⟨(by omega), (by rw [show (t27 + 1).toNat = t27.toNat + 1 from by omega]; exact tb_step hin.1 hin.2 hi hj (by rw [hlb.2]; first | exact (stp_far (by first | (left; rw [hix, hjx]; omega) | (right; (try rw [if_neg (by omega)]); (try rw [if_pos (by omega)]); omega))).symm | (rw [stp_add (by rw [hix, hjx]; omega) (by first | (rw [if_neg (by omega)]; omega) | (rw [if_pos (by omega)]; decide))]; first | rw [if_neg (by omega)] | rw [if_pos (by omega)]))), trivial⟩) (by first | (show (((b.length : Int) - (t27 + 1)).toNat : Nat) < ((b.length : Int) - t27).toNat; omega) | (dsimp only; omega))
     have hje : t27.toNat = b.length := by omega
     refine x_r [(0, .dec false)] [0, 1, 2, 7, 8, 15, 16, 26, 27, 28] [13, 8401] [slFeat false a, slFeat false b, I band, .arr 13, I t16, I (a.length : Int), I t16, I (b.length : Int), I t27, Bv false] [some (.oar [8401] 1 tb'.length (oLI 8401 tb')), some (.fam tb'.length 1 (mLI tb') (gLI tb'))] [¬ (t27 < (b.length : Int))] ⟨h2, trivial⟩ ?_
     refine xe_then ?_
     refine x_seq ?_
     refine x_false rfl ?_
     refine x_exit ?_
     refine xe_exit_then ?_
     refine xe_loop_exit ?_
     refine xe_exit_same ?_
     refine xe_block 1 ?_
     refine xe_then ?_
     refine x_r [] [0, 1, 2, 7, 15, 16] [13, 8401] [slFeat false a, slFeat false b, I band, .arr 13, I (a.length : Int), I (t16 + 1)] [some (.oar [8401] 1 tb'.length (oLI 8401 tb')), some (.fam tb'.length 1 (mLI tb') (gLI tb'))] [inR .i64 (t16 + 1)] ⟨(inR_i64 (by omega) (by omega)), trivial⟩ ?_
     exact xe_again ((t16 + 1), tb') rfl (show (0 ≤ (t16 + 1) ∧ (t16 + 1) ≤ (a.length : Int)) ∧ (tbOk a b band tb' (t16 + 1).toNat) ∧ True from ⟨(by omega), (by rw [show (t16 + 1).toNat = t16.toNat + 1 from by omega]; exact tb_done hin.1 hin.2 hje), trivial⟩) (by first | (show (((a.length : Int) - (t16 + 1)).toNat : Nat) < ((a.length : Int) - t16).toNat; omega) | (dsimp only; omega))
    have hie : t16.toNat = a.length := by omega
    rw [hie] at htb
    refine x_r [(0, .dec false)] [0, 1, 2, 7, 15, 16, 17] [13, 8401] [slFeat false a, slFeat false b, I band, .arr 13, I (a.length : Int), I t16, Bv false] [some (.oar [8401] 1 tb.length (oLI 8401 tb)), some (.fam tb.length 1 (mLI tb) (gLI tb))] [¬ (t16 < (a.length : Int))] ⟨h1, trivial⟩ ?_
    refine xe_then ?_
    refine x_seq ?_
    refine x_false rfl ?_
    refine x_exit ?_
    refine xe_exit_then ?_
    refine xe_loop_exit ?_
    refine xe_exit_same ?_
    refine xe_then ?_
    refine xR [] [6] [13, 8401] [.arr 13] [some (.oar [8401] 1 tb.length (oLI 8401 tb)), some (.fam tb.length 1 (mLI tb) (gLI tb))] [] trivial ?_
    refine x_ret ?_
    refine xe_end tb (show (tbOk a b band tb a.length) ∧ (True) from ⟨(by first | assumption | exact htb), trivial⟩) (trivial) (.arr 13) (by kernel_rfl) (.inr ⟨(fun _ => rfl), rfl, rfl, oleLI _ _ rfl⟩) (fun _ => rfl) (fun _ => (tagLI true _))
  obtain ⟨v, ⟨hh0, _⟩, hc⟩ := hh
  exact ⟨v, hh0, hc⟩


theorem tb_last {a b : List Feat} {band : Int} {tb : List (List Int)} (h : tbOk a b band tb a.length) (ha : 1 ≤ a.length) (hb : 1 ≤ b.length) : (tb.length = a.length ∧ (at_ tb (a.length - 1)).length = b.length) ∧ at_ (at_ tb (a.length - 1)) (b.length - 1) = cv farI a b band (a.length - 1) (b.length - 1) :=
  ⟨⟨h.1, (h.2 _ (by omega)).1⟩, (h.2 _ (by omega)).2 _ (by omega)⟩

-- impl.elastic
theorem elastic_ok (a : List Feat) (b : List Feat) (band : Int) (hab : okAB a b) (hbd : 0 ≤ band ∧ band ≤ 1000) (h1 : 1 ≤ a.length ∧ 1 ≤ b.length) : ∃ (v : Int), (v = cv farI a b band (a.length - 1) (b.length - 1)) ∧ Con Try.prog 27 [slFeat false a, slFeat false b, I band] true (I v) := by
  have hla := hab.2.2
  have hh : ∃ r : Int, ((r = cv farI a b band (a.length - 1) (b.length - 1)) ∧ (True)) ∧ CallOK Try.prog 27 [slFeat false a, slFeat false b, I band] (lookO []) true (I r) (lookO []) := by
    refine fn_okX (Φ := fun r : Int => (r = cv farI a b band (a.length - 1) (b.length - 1)) ∧ (True)) [] (fun r => []) (fn := Try.f27) (nt := 21) Try.func27 rfl rfl (args := [slFeat false a, slFeat false b, I band]) rfl (allcons (.inl ⟨rfl, tagFeat false _⟩) (allcons (.inl ⟨rfl, tagFeat false _⟩) (allcons (.inl ⟨rfl, trivial⟩) allnil))) (res := fun r => I r) ?_
    refine xR [] [0, 1, 2] [] [slFeat false a, slFeat false b, I band] [] [] trivial ?_
    refine x_seq ?_
    obtain ⟨v_1, hx1_0, hc1⟩ := costTable_ok a b band hab (by omega)
    have htl := tb_last hx1_0 h1.1 h1.2
    have hq1 : ((a.length : Int) - 1).toNat = a.length - 1 := by omega
    have hq2 : ((b.length : Int) - 1).toNat = b.length - 1 := by omega
    rw [← hq1] at htl
    refine x_r [(3, .call [(true, .any), (true, .any), (true, .any)] true (slLI true v_1))] [6] [] [I (at_ (at_ v_1 (((a.length : Int) - 1).toNat)) (((b.length : Int) - 1).toNat))] [] [Con Try.prog 48 [slFeat false a, slFeat false b, I band] true (slLI true v_1) ∧ True, inR .i64 ((a.length : Int) - 1), (0 : Int) ≤ ((a.length : Int) - 1) ∧ ((a.length : Int) - 1) < (v_1.length : Int), inR .i64 ((b.length : Int) - 1), (0 : Int) ≤ ((b.length : Int) - 1) ∧ ((b.length : Int) - 1) < (((at_ v_1 (((a.length : Int) - 1).toNat)).length) : Int)] ⟨⟨hc1, trivial⟩, (inR_i64 (by omega) (by omega)), ⟨(by omega), (by omega)⟩, (inR_i64 (by omega) (by omega)), ⟨(by omega), (by omega)⟩, trivial⟩ ?_
    refine xe_then ?_
    refine x_ret ?_
    refine xe_end (at_ (at_ v_1 (((a.length : Int) - 1).toNat)) (((b.length : Int) - 1).toNat)) (show ((at_ (at_ v_1 (((a.length : Int) - 1).toNat)) (((b.length : Int) - 1).toNat)) = cv farI a b band (a.length - 1) (b.length - 1)) ∧ (True) from ⟨(by (rw [hq2, htl.2, hq1])), trivial⟩) (trivial) (I (at_ (at_ v_1 (((a.length : Int) - 1).toNat)) (((b.length : Int) - 1).toNat))) (by kernel_rfl) (.inl rfl) (fun _ => rfl) (fun _ => trivial)
  obtain ⟨v, ⟨hh0, _⟩, hc⟩ := hh
  exact ⟨v, hh0, hc⟩


theorem band_of3 {n m band : Int} (h : (inB band 0 72 && decide (((n - m).natAbs : Int) ≤ band)) = true) {a b : Nat} (ha : n = (a : Int) := by rfl) (hb : m = (b : Int) := by rfl) : inBd band a b := by
  simp only [Bool.and_eq_true, decide_eq_true_eq, inB] at h
  unfold inBd; omega
theorem cst_eq {a : List Feat} {ls : List (List Feat)} {band : Int} {k : Nat} (ha : okFeats a 72 = true) (hb : okFeats (at_ ls k) 72 = true) (h : inBd band a.length (at_ ls k).length) : cv farI a (at_ ls k) band (a.length - 1) ((at_ ls k).length - 1) = cstL a ls band k := by
  have n1 := okFeats_n ha
  have n2 := okFeats_n hb
  rcases cv_fin (band := band) (i := a.length - 1) (j := (at_ ls k).length - 1) (okAB_of ha hb) (by omega) (by omega) with g | g
  · exact g.2.1
  · exact absurd (inBd_end h n1.1 n2.1) g.1

-- impl.NearestPruned
theorem NearestPruned_ok (a : List Feat) (lists : List (List Feat)) (band : Int) (oka : okFeats a 72 = true) (hls : lists.length ≤ 18 ∧ ∀ l ∈ lists, okFeats l 72 = true) (hbd : 0 ≤ band ∧ band ≤ 72) : ∃ (index : Int) (least : Int) (many : Int) (c : Int), (nrOk a lists band lists.length index least many) ∧ (c = if many = 0 then 3 else 0) ∧ Con Try.prog 8 [slFeat false a, slLFeat false lists, I band] true (.tup [I index, I least, I many, I c]) := by
  have hh : ∃ r : Int × Int × Int × Int, ((nrOk a lists band lists.length r.1 r.2.1 r.2.2.1) ∧ (r.2.2.2 = if r.2.2.1 = 0 then 3 else 0) ∧ (True)) ∧ CallOK Try.prog 8 [slFeat false a, slLFeat false lists, I band] (lookO []) true (.tup [I r.1, I r.2.1, I r.2.2.1, I r.2.2.2]) (lookO []) := by
    refine fn_okX (Φ := fun r : Int × Int × Int × Int => (nrOk a lists band lists.length r.1 r.2.1 r.2.2.1) ∧ (r.2.2.2 = if r.2.2.1 = 0 then 3 else 0) ∧ (True)) [] (fun r => []) (fn := Try.f8) (nt := 71) Try.func8 rfl rfl (args := [slFeat false a, slLFeat false lists, I band]) rfl (allcons (.inl ⟨rfl, tagFeat false _⟩) (allcons (.inl ⟨rfl, tagLFeat false _⟩) (allcons (.inl ⟨rfl, trivial⟩) allnil))) (res := fun r => .tup [I r.1, I r.2.1, I r.2.2.1, I r.2.2.2]) ?_
    refine xR [] [0, 1, 2] [] [slFeat false a, slLFeat false lists, I band] [] [] trivial ?_
    refine x_seq ?_
    refine xR [(3, .call [(true, .any), (true, .any), (true, .any)] true (I 0))] [0, 1, 2, 10] [] [slFeat false a, slLFeat false lists, I band, I 0] [] [Con Try.prog 24 [slFeat false a, slLFeat false lists, I band] true (I 0) ∧ True] ⟨⟨(searchable_ok a lists band oka hls hbd), trivial⟩, trivial⟩ ?_
    refine xR [(1, .dec false)] [0, 1, 2, 10, 22] [] [slFeat false a, slLFeat false lists, I band, I 0, Bv false] [] [¬ ((0 : Int) ≠ 0)] ⟨(fun hq => hq (by decide)), trivial⟩ ?_
    refine x_false rfl ?_
    refine x_skip ?_
    refine xe_then ?_
    refine xR [] [0, 1, 2, 11, 12, 13] [] [slFeat false a, slLFeat false lists, I band, I 0, I 0, I 0] [] [] trivial ?_
    refine x_seq ?_
    refine xR [] [0, 2, 11, 12, 13, 24, 25, 26] [] [slFeat false a, I band, I 0, I 0, I 0, slLFeat false lists, I (lists.length : Int), I 0] [] [] trivial ?_
    refine x_block ?_
    refine x_loop (X := Int × Int × Int × Int) (fun x => mkS [(0, slFeat false a), (2, I band), (11, I x.1), (12, I x.2.1), (13, I x.2.2.1), (24, slLFeat false lists), (25, I (lists.length : Int)), (26, I x.2.2.2)] []) (fun x => (0 ≤ x.2.2.2 ∧ x.2.2.2 ≤ (lists.length : Int)) ∧ (nrOk a lists band x.2.2.2.toNat x.1 x.2.1 x.2.2.1) ∧ (0 ≤ x.2.2.1 ∧ x.2.2.1 ≤ x.2.2.2) ∧ True) (fun x => ((lists.length : Int) - x.2.2.2).toNat) (0, 0, 0, 0) rfl (show (0 ≤ (0 : Int) ∧ (0 : Int) ≤ (lists.length : Int)) ∧ (nrOk a lists band (0 : Int).toNat (0 : Int) (0 : Int) (0 : Int)) ∧ (0 ≤ (0 : Int) ∧ (0 : Int) ≤ (0 : Int)) ∧ True from ⟨(by omega), (by exact .inl ⟨rfl, fun j hj => absurd hj (Nat.not_lt_zero _)⟩), (by omega), trivial⟩) (fun x hI => ?_)
    obtain ⟨index, least, matched, t26⟩ := x
    obtain ⟨hi0, hnr, hmt, _⟩ : (0 ≤ t26 ∧ t26 ≤ (lists.length : Int)) ∧ (nrOk a lists band t26.toNat index least matched) ∧ (0 ≤ matched ∧ matched ≤ t26) ∧ True := hI
    show XW _ _ _ _ (mkS [(0, slFeat false a), (2, I band), (11, I index), (12, I least), (13, I matched), (24, slLFeat false lists), (25, I (lists.length : Int)), (26, I t26)] []) _ _
    refine x_seq ?_
    by_cases h1 : t26 < (lists.length : Int)
    ·have hi : t26.toNat < lists.length := by omega
     have hix : ((t26.toNat : Nat) : Int) = t26 := by omega
     have hnx : (t26 + 1).toNat = t26.toNat + 1 := by omega
     have okl := hls.2 _ (at_mem hi)
     have hna := okFeats_n oka
     have hnl := okFeats_n okl
     have hol := ord_len a lists band t26.toNat
     refine x_r [(0, .dec true)] [0, 2, 11, 12, 13, 24, 25, 26, 27] [] [slFeat false a, I band, I index, I least, I matched, slLFeat false lists, I (lists.length : Int), I t26, Bv true] [] [t26 < (lists.length : Int)] ⟨h1, trivial⟩ ?_
     refine xe_then ?_
     refine x_seq ?_
     refine x_true rfl ?_
     refine x_skip ?_
     refine xe_then ?_
     refine x_seq ?_
     refine x_block ?_
     refine xR [] [0, 2, 11, 12, 13, 14, 15, 24, 25, 26] [] [slFeat false a, I band, I index, I least, I matched, I t26, slFeat false (at_ lists t26.toNat), slLFeat false lists, I (lists.length : Int), I t26] [] [(0 : Int) ≤ t26 ∧ t26 < (lists.length : Int)] ⟨⟨(by omega), (by omega)⟩, trivial⟩ ?_
     refine x_seq ?_
     refine x_seq ?_
     rcases Bool.eq_false_or_eq_true (inB band 0 72 && decide ((((a.length : Int) - (((at_ lists t26.toNat).length) : Int)).natAbs : Int) ≤ band)) with h2 | h2
     ·have hin : inL a lists band t26.toNat = true := h2
      have hinb : inBd band a.length (at_ lists t26.toNat).length := (band_of3 h2)
      have hce : cv farI a (at_ lists t26.toNat) band (a.length - 1) ((at_ lists t26.toNat).length - 1) = cstL a lists band t26.toNat := cst_eq oka okl hinb
      have hlbl : lbI a (at_ lists t26.toNat) band ≤ cstL a lists band t26.toNat := lb_le oka okl hinb
      by_cases h3 : 0 < matched
      ·obtain ⟨v_1, hx1_0, hc1⟩ := lowerBound_ok a (at_ lists t26.toNat) band oka okl hbd hinb
       have hlv := hx1_0
       by_cases h4 : least ≤ v_1
       ·refine x_r [(5, .call [(true, .any), (true, .any), (true, .any)] true (Bv true)), (9, .dec true), (14, .call [(true, .any), (true, .any), (true, .any)] true (I v_1)), (16, .dec true)] [0, 2, 11, 12, 13, 14, 15, 24, 25, 26, 49] [] [slFeat false a, I band, I index, I least, I matched, I t26, slFeat false (at_ lists t26.toNat), slLFeat false lists, I (lists.length : Int), I t26, Bv true] [] [Con Try.prog 25 [I band, I (a.length : Int), I (((at_ lists t26.toNat).length) : Int)] true (Bv true) ∧ True, 0 < matched, Con Try.prog 26 [slFeat false a, slFeat false (at_ lists t26.toNat), I band] true (I v_1) ∧ True, least ≤ v_1] ⟨⟨(con_bool h2 (isBand_ok band (a.length : Int) (((at_ lists t26.toNat).length) : Int) (by omega) (by omega))), trivial⟩, h3, ⟨hc1, trivial⟩, h4, trivial⟩ ?_
        refine xe_then ?_
        refine x_true rfl ?_
        refine x_exit ?_
        refine xe_exit_then ?_
        refine xe_exit_same ?_
        refine xe_then ?_
        refine x_r [] [0, 2, 11, 12, 13, 24, 25, 26] [] [slFeat false a, I band, I index, I least, I matched, slLFeat false lists, I (lists.length : Int), I (t26 + 1)] [] [inR .i64 (t26 + 1)] ⟨(inR_i64 (by omega) (by omega)), trivial⟩ ?_
        exact xe_again (index, least, matched, (t26 + 1)) rfl (show (0 ≤ (t26 + 1) ∧ (t26 + 1) ≤ (lists.length : Int)) ∧ (nrOk a lists band (t26 + 1).toNat index least matched) ∧ (0 ≤ matched ∧ matched ≤ (t26 + 1)) ∧ True from ⟨(by omega), (by rw [hnx]; first | exact nr_skip hnr (fun q => absurd q hin) | exact nr_skip hnr (fun _ => ⟨by omega, by omega⟩) | (rw [hel]; have q := nr_take hnr hin (by first | (left; assumption) | (right; omega)); rwa [hix] at q) | exact nr_keep hnr hin (by assumption) (by omega)), (by omega), trivial⟩) (by first | (show (((lists.length : Int) - (t26 + 1)).toNat : Nat) < ((lists.length : Int) - t26).toNat; omega) | (dsimp only; omega))
       refine x_r [(5, .call [(true, .any), (true, .any), (true, .any)] true (Bv true)), (9, .dec true), (14, .call [(true, .any), (true, .any), (true, .any)] true (I v_1)), (16, .dec false)] [0, 2, 11, 12, 13, 14, 15, 24, 25, 26, 49] [] [slFeat false a, I band, I index, I least, I matched, I t26, slFeat false (at_ lists t26.toNat), slLFeat false lists, I (lists.length : Int), I t26, Bv false] [] [Con Try.prog 25 [I band, I (a.length : Int), I (((at_ lists t26.toNat).length) : Int)] true (Bv true) ∧ True, 0 < matched, Con Try.prog 26 [slFeat false a, slFeat false (at_ lists t26.toNat), I band] true (I v_1) ∧ True, ¬ (least ≤ v_1)] ⟨⟨(con_bool h2 (isBand_ok band (a.length : Int) (((at_ lists t26.toNat).length) : Int) (by omega) (by omega))), trivial⟩, h3, ⟨hc1, trivial⟩, h4, trivial⟩ ?_
       refine xe_then ?_
       refine x_false rfl ?_
       refine x_skip ?_
       refine xe_then ?_
       refine x_seq ?_
       obtain ⟨v_2, hx2_0, hc2⟩ := elastic_ok a (at_ lists t26.toNat) band (okAB_of oka okl) (by omega) (by omega)
       have hel : v_2 = cstL a lists band t26.toNat := hx2_0.trans hce
       refine x_r [(3, .call [(true, .any), (true, .any), (true, .any)] true (I v_2))] [0, 2, 11, 12, 13, 14, 16, 24, 25, 26] [] [slFeat false a, I band, I index, I least, I matched, I t26, I v_2, slLFeat false lists, I (lists.length : Int), I t26] [] [Con Try.prog 27 [slFeat false a, slFeat false (at_ lists t26.toNat), I band] true (I v_2) ∧ True] ⟨⟨hc2, trivial⟩, trivial⟩ ?_
       refine xe_then ?_
       refine x_seq ?_
       refine x_seq ?_
       by_cases h5 : matched = 0
       ·refine x_r [(1, .dec true)] [0, 2, 11, 12, 13, 14, 16, 24, 25, 26, 60] [] [slFeat false a, I band, I index, I least, I matched, I t26, I v_2, slLFeat false lists, I (lists.length : Int), I t26, Bv true] [] [matched = 0] ⟨h5, trivial⟩ ?_
        refine xe_then ?_
        refine x_true rfl ?_
        refine x_r [] [0, 2, 11, 12, 13, 24, 25, 26] [] [slFeat false a, I band, I t26, I v_2, I matched, slLFeat false lists, I (lists.length : Int), I t26] [] [] trivial ?_
        refine xe_then ?_
        refine x_r [] [0, 2, 11, 12, 13, 24, 25, 26] [] [slFeat false a, I band, I t26, I v_2, I (matched + 1), slLFeat false lists, I (lists.length : Int), I t26] [] [inR .i64 (matched + 1)] ⟨(inR_i64 (by omega) (by omega)), trivial⟩ ?_
        refine xe_block 1 ?_
        refine xe_then ?_
        refine x_r [] [0, 2, 11, 12, 13, 24, 25, 26] [] [slFeat false a, I band, I t26, I v_2, I (matched + 1), slLFeat false lists, I (lists.length : Int), I (t26 + 1)] [] [inR .i64 (t26 + 1)] ⟨(inR_i64 (by omega) (by omega)), trivial⟩ ?_
        exact xe_again (t26, v_2, (matched + 1), (t26 + 1)) rfl (show (0 ≤ (t26 + 1) ∧ (t26 + 1) ≤ (lists.length : Int)) ∧ (nrOk a lists band (t26 + 1).toNat t26 v_2 (matched + 1)) ∧ (0 ≤ (matched + 1) ∧ (matched + 1) ≤ (t26 + 1)) ∧ True from ⟨(by omega), (by rw [hnx]; first | exact nr_skip hnr (fun q => absurd q hin) | exact nr_skip hnr (fun _ => ⟨by omega, by omega⟩) | (rw [hel]; have q := nr_take hnr hin (by first | (left; assumption) | (right; omega)); rwa [hix] at q) | exact nr_keep hnr hin (by assumption) (by omega)), (by omega), trivial⟩) (by first | (show (((lists.length : Int) - (t26 + 1)).toNat : Nat) < ((lists.length : Int) - t26).toNat; omega) | (dsimp only; omega))
       by_cases h6 : v_2 < least
       ·refine x_r [(1, .dec false), (5, .dec true)] [0, 2, 11, 12, 13, 14, 16, 24, 25, 26, 60] [] [slFeat false a, I band, I index, I least, I matched, I t26, I v_2, slLFeat false lists, I (lists.length : Int), I t26, Bv true] [] [¬ (matched = 0), v_2 < least] ⟨h5, h6, trivial⟩ ?_
        refine xe_then ?_
        refine x_true rfl ?_
        refine x_r [] [0, 2, 11, 12, 13, 24, 25, 26] [] [slFeat false a, I band, I t26, I v_2, I matched, slLFeat false lists, I (lists.length : Int), I t26] [] [] trivial ?_
        refine xe_then ?_
        refine x_r [] [0, 2, 11, 12, 13, 24, 25, 26] [] [slFeat false a, I band, I t26, I v_2, I (matched + 1), slLFeat false lists, I (lists.length : Int), I t26] [] [inR .i64 (matched + 1)] ⟨(inR_i64 (by omega) (by omega)), trivial⟩ ?_
        refine xe_block 1 ?_
        refine xe_then ?_
        refine x_r [] [0, 2, 11, 12, 13, 24, 25, 26] [] [slFeat false a, I band, I t26, I v_2, I (matched + 1), slLFeat false lists, I (lists.length : Int), I (t26 + 1)] [] [inR .i64 (t26 + 1)] ⟨(inR_i64 (by omega) (by omega)), trivial⟩ ?_
        exact xe_again (t26, v_2, (matched + 1), (t26 + 1)) rfl (show (0 ≤ (t26 + 1) ∧ (t26 + 1) ≤ (lists.length : Int)) ∧ (nrOk a lists band (t26 + 1).toNat t26 v_2 (matched + 1)) ∧ (0 ≤ (matched + 1) ∧ (matched + 1) ≤ (t26 + 1)) ∧ True from ⟨(by omega), (by rw [hnx]; first | exact nr_skip hnr (fun q => absurd q hin) | exact nr_skip hnr (fun _ => ⟨by omega, by omega⟩) | (rw [hel]; have q := nr_take hnr hin (by first | (left; assumption) | (right; omega)); rwa [hix] at q) | exact nr_keep hnr hin (by assumption) (by omega)), (by omega), trivial⟩) (by first | (show (((lists.length : Int) - (t26 + 1)).toNat : Nat) < ((lists.length : Int) - t26).toNat; omega) | (dsimp only; omega))
       refine x_r [(1, .dec false), (5, .dec false)] [0, 2, 11, 12, 13, 14, 16, 24, 25, 26, 60] [] [slFeat false a, I band, I index, I least, I matched, I t26, I v_2, slLFeat false lists, I (lists.length : Int), I t26, Bv false] [] [¬ (matched = 0), ¬ (v_2 < least)] ⟨h5, h6, trivial⟩ ?_
       refine xe_then ?_
       refine x_false rfl ?_
       refine x_skip ?_
       refine xe_then ?_
       refine x_r [] [0, 2, 11, 12, 13, 24, 25, 26] [] [slFeat false a, I band, I index, I least, I (matched + 1), slLFeat false lists, I (lists.length : Int), I t26] [] [inR .i64 (matched + 1)] ⟨(inR_i64 (by omega) (by omega)), trivial⟩ ?_
       refine xe_block 1 ?_
       refine xe_then ?_
       refine x_r [] [0, 2, 11, 12, 13, 24, 25, 26] [] [slFeat false a, I band, I index, I least, I (matched + 1), slLFeat false lists, I (lists.length : Int), I (t26 + 1)] [] [inR .i64 (t26 + 1)] ⟨(inR_i64 (by omega) (by omega)), trivial⟩ ?_
       exact xe_again (index, least, (matched + 1), (t26 + 1)) rfl (show (0 ≤ (t26 + 1) ∧ (t26 + 1) ≤ (lists.length : Int)) ∧ (nrOk a lists band (t26 + 1).toNat index least (matched + 1)) ∧ (0 ≤ (matched + 1) ∧ (matched + 1) ≤ (t26 + 1)) ∧ True from ⟨(by omega), (by rw [hnx]; first | exact nr_skip hnr (fun q => absurd q hin) | exact nr_skip hnr (fun _ => ⟨by omega, by omega⟩) | (rw [hel]; have q := nr_take hnr hin (by first | (left; assumption) | (right; omega)); rwa [hix] at q) | exact nr_keep hnr hin (by assumption) (by omega)), (by omega), trivial⟩) (by first | (show (((lists.length : Int) - (t26 + 1)).toNat : Nat) < ((lists.length : Int) - t26).toNat; omega) | (dsimp only; omega))
      refine x_r [(5, .call [(true, .any), (true, .any), (true, .any)] true (Bv true)), (9, .dec false)] [0, 2, 11, 12, 13, 14, 15, 24, 25, 26, 49] [] [slFeat false a, I band, I index, I least, I matched, I t26, slFeat false (at_ lists t26.toNat), slLFeat false lists, I (lists.length : Int), I t26, Bv false] [] [Con Try.prog 25 [I band, I (a.length : Int), I (((at_ lists t26.toNat).length) : Int)] true (Bv true) ∧ True, ¬ (0 < matched)] ⟨⟨(con_bool h2 (isBand_ok band (a.length : Int) (((at_ lists t26.toNat).length) : Int) (by omega) (by omega))), trivial⟩, h3, trivial⟩ ?_
      refine xe_then ?_
      refine x_false rfl ?_
      refine x_skip ?_
      refine xe_then ?_
      refine x_seq ?_
      obtain ⟨v_3, hx3_0, hc3⟩ := elastic_ok a (at_ lists t26.toNat) band (okAB_of oka okl) (by omega) (by omega)
      have hel : v_3 = cstL a lists band t26.toNat := hx3_0.trans hce
      refine x_r [(3, .call [(true, .any), (true, .any), (true, .any)] true (I v_3))] [0, 2, 11, 12, 13, 14, 16, 24, 25, 26] [] [slFeat false a, I band, I index, I least, I matched, I t26, I v_3, slLFeat false lists, I (lists.length : Int), I t26] [] [Con Try.prog 27 [slFeat false a, slFeat false (at_ lists t26.toNat), I band] true (I v_3) ∧ True] ⟨⟨hc3, trivial⟩, trivial⟩ ?_
      refine xe_then ?_
      refine x_seq ?_
      refine x_seq ?_
      by_cases h7 : matched = 0
      ·refine x_r [(1, .dec true)] [0, 2, 11, 12, 13, 14, 16, 24, 25, 26, 60] [] [slFeat false a, I band, I index, I least, I matched, I t26, I v_3, slLFeat false lists, I (lists.length : Int), I t26, Bv true] [] [matched = 0] ⟨h7, trivial⟩ ?_
       refine xe_then ?_
       refine x_true rfl ?_
       refine x_r [] [0, 2, 11, 12, 13, 24, 25, 26] [] [slFeat false a, I band, I t26, I v_3, I matched, slLFeat false lists, I (lists.length : Int), I t26] [] [] trivial ?_
       refine xe_then ?_
       refine x_r [] [0, 2, 11, 12, 13, 24, 25, 26] [] [slFeat false a, I band, I t26, I v_3, I (matched + 1), slLFeat false lists, I (lists.length : Int), I t26] [] [inR .i64 (matched + 1)] ⟨(inR_i64 (by omega) (by omega)), trivial⟩ ?_
       refine xe_block 1 ?_
       refine xe_then ?_
       refine x_r [] [0, 2, 11, 12, 13, 24, 25, 26] [] [slFeat false a, I band, I t26, I v_3, I (matched + 1), slLFeat false lists, I (lists.length : Int), I (t26 + 1)] [] [inR .i64 (t26 + 1)] ⟨(inR_i64 (by omega) (by omega)), trivial⟩ ?_
       exact xe_again (t26, v_3, (matched + 1), (t26 + 1)) rfl (show (0 ≤ (t26 + 1) ∧ (t26 + 1) ≤ (lists.length : Int)) ∧ (nrOk a lists band (t26 + 1).toNat t26 v_3 (matched + 1)) ∧ (0 ≤ (matched + 1) ∧ (matched + 1) ≤ (t26 + 1)) ∧ True from ⟨(by omega), (by rw [hnx]; first | exact nr_skip hnr (fun q => absurd q hin) | exact nr_skip hnr (fun _ => ⟨by omega, by omega⟩) | (rw [hel]; have q := nr_take hnr hin (by first | (left; assumption) | (right; omega)); rwa [hix] at q) | exact nr_keep hnr hin (by assumption) (by omega)), (by omega), trivial⟩) (by first | (show (((lists.length : Int) - (t26 + 1)).toNat : Nat) < ((lists.length : Int) - t26).toNat; omega) | (dsimp only; omega))
      by_cases h8 : v_3 < least
      ·refine x_r [(1, .dec false), (5, .dec true)] [0, 2, 11, 12, 13, 14, 16, 24, 25, 26, 60] [] [slFeat false a, I band, I index, I least, I matched, I t26, I v_3, slLFeat false lists, I (lists.length : Int), I t26, Bv true] [] [¬ (matched = 0), v_3 < least] ⟨h7, h8, trivial⟩ ?_
       refine xe_then ?_
       refine x_true rfl ?_
       refine x_r [] [0, 2, 11, 12, 13, 24, 25, 26] [] [slFeat false a, I band, I t26, I v_3, I matched, slLFeat false lists, I (lists.length : Int), I t26] [] [] trivial ?_
       refine xe_then ?_
       refine x_r [] [0, 2, 11, 12, 13, 24, 25, 26] [] [slFeat false a, I band, I t26, I v_3, I (matched + 1), slLFeat false lists, I (lists.length : Int), I t26] [] [inR .i64 (matched + 1)] ⟨(inR_i64 (by omega) (by omega)), trivial⟩ ?_
       refine xe_block 1 ?_
       refine xe_then ?_
       refine x_r [] [0, 2, 11, 12, 13, 24, 25, 26] [] [slFeat false a, I band, I t26, I v_3, I (matched + 1), slLFeat false lists, I (lists.length : Int), I (t26 + 1)] [] [inR .i64 (t26 + 1)] ⟨(inR_i64 (by omega) (by omega)), trivial⟩ ?_
       exact xe_again (t26, v_3, (matched + 1), (t26 + 1)) rfl (show (0 ≤ (t26 + 1) ∧ (t26 + 1) ≤ (lists.length : Int)) ∧ (nrOk a lists band (t26 + 1).toNat t26 v_3 (matched + 1)) ∧ (0 ≤ (matched + 1) ∧ (matched + 1) ≤ (t26 + 1)) ∧ True from ⟨(by omega), (by rw [hnx]; first | exact nr_skip hnr (fun q => absurd q hin) | exact nr_skip hnr (fun _ => ⟨by omega, by omega⟩) | (rw [hel]; have q := nr_take hnr hin (by first | (left; assumption) | (right; omega)); rwa [hix] at q) | exact nr_keep hnr hin (by assumption) (by omega)), (by omega), trivial⟩) (by first | (show (((lists.length : Int) - (t26 + 1)).toNat : Nat) < ((lists.length : Int) - t26).toNat; omega) | (dsimp only; omega))
      refine x_r [(1, .dec false), (5, .dec false)] [0, 2, 11, 12, 13, 14, 16, 24, 25, 26, 60] [] [slFeat false a, I band, I index, I least, I matched, I t26, I v_3, slLFeat false lists, I (lists.length : Int), I t26, Bv false] [] [¬ (matched = 0), ¬ (v_3 < least)] ⟨h7, h8, trivial⟩ ?_
      refine xe_then ?_
      refine x_false rfl ?_
      refine x_skip ?_
      refine xe_then ?_
      refine x_r [] [0, 2, 11, 12, 13, 24, 25, 26] [] [slFeat false a, I band, I index, I least, I (matched + 1), slLFeat false lists, I (lists.length : Int), I t26] [] [inR .i64 (matched + 1)] ⟨(inR_i64 (by omega) (by omega)), trivial⟩ ?_
      refine xe_block 1 ?_
      refine xe_then ?_
      refine x_r [] [0, 2, 11, 12, 13, 24, 25, 26] [] [slFeat false a, I band, I index, I least, I (matched + 1), slLFeat false lists, I (lists.length : Int), I (t26 + 1)] [] [inR .i64 (t26 + 1)] ⟨(inR_i64 (by omega) (by omega)), trivial⟩ ?_
      exact xe_again (index, least, (matched + 1), (t26 + 1)) rfl (show (0 ≤ (t26 + 1) ∧ (t26 + 1) ≤ (lists.length : Int)) ∧ (nrOk a lists band (t26 + 1).toNat index least (matched + 1)) ∧ (0 ≤ (matched + 1) ∧ (matched + 1) ≤ (t26 + 1)) ∧ True from ⟨(by omega), (by rw [hnx]; first | exact nr_skip hnr (fun q => absurd q hin) | exact nr_skip hnr (fun _ => ⟨by omega, by omega⟩) | (rw [hel]; have q := nr_take hnr hin (by first | (left; assumption) | (right; omega)); rwa [hix] at q) | exact nr_keep hnr hin (by assumption) (by omega)), (by omega), trivial⟩) (by first | (show (((lists.length : Int) - (t26 + 1)).toNat : Nat) < ((lists.length : Int) - t26).toNat; omega) | (dsimp only; omega))
     have hin : ¬ inL a lists band t26.toNat = true := by unfold inL; rw [h2]; decide
     refine x_r [(5, .call [(true, .any), (true, .any), (true, .any)] true (Bv false))] [0, 2, 11, 12, 13, 14, 15, 24, 25, 26, 49] [] [slFeat false a, I band, I index, I least, I matched, I t26, slFeat false (at_ lists t26.toNat), slLFeat false lists, I (lists.length : Int), I t26, Bv true] [] [Con Try.prog 25 [I band, I (a.length : Int), I (((at_ lists t26.toNat).length) : Int)] true (Bv false) ∧ True] ⟨⟨(con_bool h2 (isBand_ok band (a.length : Int) (((at_ lists t26.toNat).length) : Int) (by omega) (by omega))), trivial⟩, trivial⟩ ?_
     refine xe_then ?_
     refine x_true rfl ?_
     refine x_exit ?_
     refine xe_exit_then ?_
     refine xe_exit_same ?_
     refine xe_then ?_
     refine x_r [] [0, 2, 11, 12, 13, 24, 25, 26] [] [slFeat false a, I band, I index, I least, I matched, slLFeat false lists, I (lists.length : Int), I (t26 + 1)] [] [inR .i64 (t26 + 1)] ⟨(inR_i64 (by omega) (by omega)), trivial⟩ ?_
     exact xe_again (index, least, matched, (t26 + 1)) rfl (show (0 ≤ (t26 + 1) ∧ (t26 + 1) ≤ (lists.length : Int)) ∧ (nrOk a lists band (t26 + 1).toNat index least matched) ∧ (0 ≤ matched ∧ matched ≤ (t26 + 1)) ∧ True from ⟨(by omega), (by rw [hnx]; first | exact nr_skip hnr (fun q => absurd q hin) | exact nr_skip hnr (fun _ => ⟨by omega, by omega⟩) | (rw [hel]; have q := nr_take hnr hin (by first | (left; assumption) | (right; omega)); rwa [hix] at q) | exact nr_keep hnr hin (by assumption) (by omega)), (by omega), trivial⟩) (by first | (show (((lists.length : Int) - (t26 + 1)).toNat : Nat) < ((lists.length : Int) - t26).toNat; omega) | (dsimp only; omega))
    have hie : t26.toNat = lists.length := by omega
    refine x_r [(0, .dec false)] [0, 2, 11, 12, 13, 24, 25, 26, 27] [] [slFeat false a, I band, I index, I least, I matched, slLFeat false lists, I (lists.length : Int), I t26, Bv false] [] [¬ (t26 < (lists.length : Int))] ⟨h1, trivial⟩ ?_
    refine xe_then ?_
    refine x_seq ?_
    refine x_false rfl ?_
    refine x_exit ?_
    refine xe_exit_then ?_
    refine xe_loop_exit ?_
    refine xe_exit_same ?_
    refine xe_then ?_
    refine x_seq ?_
    refine x_seq ?_
    by_cases h9 : matched = 0
    ·refine x_r [(1, .dec true)] [11, 12, 13, 67] [] [I index, I least, I matched, Bv true] [] [matched = 0] ⟨h9, trivial⟩ ?_
     refine xe_then ?_
     refine x_true rfl ?_
     refine xR [] [6, 7, 8, 9] [] [I 0, I 0, I 0, I 3] [] [] trivial ?_
     refine x_ret ?_
     refine xe_ret_then ?_
     refine xe_end (0, 0, 0, 3) (show (nrOk a lists band lists.length 0 0 0) ∧ (3 = if 0 = 0 then 3 else 0) ∧ (True) from ⟨(by first | (rw [← hie]; assumption) | (rw [if_pos (by assumption)]; done) | (rw [if_neg (by assumption)]; done) | (rw [if_pos rfl]; done) | (rw [hie, show matched = 0 from by assumption] at hnr; exact nr_zero hnr)), (by first | (rw [← hie]; assumption) | (rw [if_pos (by assumption)]; done) | (rw [if_neg (by assumption)]; done) | (rw [if_pos rfl]; done) | (rw [hie, show matched = 0 from by assumption] at hnr; exact nr_zero hnr)), trivial⟩) (trivial) (.tup [I 0, I 0, I 0, I 3]) (by kernel_rfl) (.inl rfl) (fun _ => rfl) (fun _ => (by simp [tagged, taggedL]))
    refine x_r [(1, .dec false)] [11, 12, 13, 67] [] [I index, I least, I matched, Bv false] [] [¬ (matched = 0)] ⟨h9, trivial⟩ ?_
    refine xe_then ?_
    refine x_false rfl ?_
    refine x_skip ?_
    refine xe_then ?_
    refine xR [] [6, 7, 8, 9] [] [I index, I least, I matched, I 0] [] [] trivial ?_
    refine x_ret ?_
    refine xe_end (index, least, matched, 0) (show (nrOk a lists band lists.length index least matched) ∧ (0 = if matched = 0 then 3 else 0) ∧ (True) from ⟨(by first | (rw [← hie]; assumption) | (rw [if_pos (by assumption)]; done) | (rw [if_neg (by assumption)]; done) | (rw [if_pos rfl]; done) | (rw [hie, show matched = 0 from by assumption] at hnr; exact nr_zero hnr)), (by first | (rw [← hie]; assumption) | (rw [if_pos (by assumption)]; done) | (rw [if_neg (by assumption)]; done) | (rw [if_pos rfl]; done) | (rw [hie, show matched = 0 from by assumption] at hnr; exact nr_zero hnr)), trivial⟩) (trivial) (.tup [I index, I least, I matched, I 0]) (by kernel_rfl) (.inl rfl) (fun _ => rfl) (fun _ => (by simp [tagged, taggedL]))
  obtain ⟨⟨index, least, many, c⟩, ⟨hh0, hh1, _⟩, hc⟩ := hh
  exact ⟨index, least, many, c, hh0, hh1, hc⟩


-- impl.NearestOf
theorem NearestOf_ok (a : List Feat) (lists : List (List Feat)) (band : Int) (oka : okFeats a 72 = true) (hls : lists.length ≤ 18 ∧ ∀ l ∈ lists, okFeats l 72 = true) (hbd : 0 ≤ band ∧ band ≤ 72) : ∃ (index : Int) (least : Int) (c : Int), (∃ many : Int, nrOk a lists band lists.length index least many ∧ c = if many = 0 then 3 else 0) ∧ Con Try.prog 7 [slFeat false a, slLFeat false lists, I band] true (.tup [I index, I least, I c]) := by
  have hh : ∃ r : Int × Int × Int, ((∃ many : Int, nrOk a lists band lists.length r.1 r.2.1 many ∧ r.2.2 = if many = 0 then 3 else 0) ∧ (True)) ∧ CallOK Try.prog 7 [slFeat false a, slLFeat false lists, I band] (lookO []) true (.tup [I r.1, I r.2.1, I r.2.2]) (lookO []) := by
    refine fn_okX (Φ := fun r : Int × Int × Int => (∃ many : Int, nrOk a lists band lists.length r.1 r.2.1 many ∧ r.2.2 = if many = 0 then 3 else 0) ∧ (True)) [] (fun r => []) (fn := Try.f7) (nt := 25) Try.func7 rfl rfl (args := [slFeat false a, slLFeat false lists, I band]) rfl (allcons (.inl ⟨rfl, tagFeat false _⟩) (allcons (.inl ⟨rfl, tagLFeat false _⟩) (allcons (.inl ⟨rfl, trivial⟩) allnil))) (res := fun r => .tup [I r.1, I r.2.1, I r.2.2]) ?_
    refine xR [] [0, 1, 2] [] [slFeat false a, slLFeat false lists, I band] [] [] trivial ?_
    refine x_seq ?_
    obtain ⟨index_1, least_1, many_1, c_1, hx1_0, hx1_1, hc1⟩ := NearestPruned_ok a lists band oka hls hbd
    have hmm := (⟨many_1, hx1_0, hx1_1⟩ : ∃ many : Int, nrOk a lists band lists.length index_1 least_1 many ∧ c_1 = if many = 0 then 3 else 0)
    refine x_r [(3, .call [(true, .any), (true, .any), (true, .any)] true (.tup [I index_1, I least_1, I many_1, I c_1]))] [9, 10, 12] [] [I index_1, I least_1, I c_1] [] [Con Try.prog 8 [slFeat false a, slLFeat false lists, I band] true (.tup [I index_1, I least_1, I many_1, I c_1]) ∧ True] ⟨⟨hc1, trivial⟩, trivial⟩ ?_
    refine xe_then ?_
    refine xR [] [6, 7, 8] [] [I index_1, I least_1, I c_1] [] [] trivial ?_
    refine x_ret ?_
    refine xe_end (index_1, least_1, c_1) (show (∃ many : Int, nrOk a lists band lists.length index_1 least_1 many ∧ c_1 = if many = 0 then 3 else 0) ∧ (True) from ⟨(by exact hmm), trivial⟩) (trivial) (.tup [I index_1, I least_1, I c_1]) (by kernel_rfl) (.inl rfl) (fun _ => rfl) (fun _ => (by simp [tagged, taggedL]))
  obtain ⟨⟨index, least, c⟩, ⟨hh0, _⟩, hc⟩ := hh
  exact ⟨index, least, c, hh0, hc⟩


-- cmp.isNaN[int64]
theorem isNaNI_ok (x : Int) : Con Try.prog 50 [I x] true (Bv false) := by
  refine fn_ok (fn := Try.f50) (nt := 6) Try.func50 rfl rfl rfl rfl (by simp [taggedL, tagged]) fun B hB => ?_
  refine aR [] [0] [] [I x] [] [] hB trivial ?_
  refine aR [(2, .dec false)] [2] [] [Bv false] [] [¬ (x ≠ x)] hB ⟨(fun hq => hq rfl), trivial⟩ ?_
  refine aw_ret ?_
  refine ae_ret hB (Bv false) (by kernel_rfl) (.inl rfl) rfl (fun _ => trivial)


-- cmp.Compare[int64]
theorem CompareI_ok (x : Int) (y : Int) : Con Try.prog 30 [I x, I y] true (I (cmpI x y)) := by
  refine fn_ok (fn := Try.f30) (nt := 20) Try.func30 rfl rfl rfl rfl (by simp [taggedL, tagged]) fun B hB => ?_
  refine aR [] [0, 1] [] [I x, I y] [] [] hB trivial ?_
  refine aR [(1, .call [(true, .any)] true (Bv false))] [0, 1, 5] [] [I x, I y, Bv false] [] [Con Try.prog 50 [I x] true (Bv false) ∧ True] hB ⟨⟨(isNaNI_ok x), trivial⟩, trivial⟩ ?_
  refine aR [(1, .call [(true, .any)] true (Bv false))] [0, 1, 5, 6] [] [I x, I y, Bv false, Bv false] [] [Con Try.prog 50 [I y] true (Bv false) ∧ True] hB ⟨⟨(isNaNI_ok y), trivial⟩, trivial⟩ ?_
  refine aw_seq ?_
  refine aR [] [0, 1, 6, 11] [] [I x, I y, Bv false, Bv false] [] [] hB trivial ?_
  refine aw_false rfl ?_
  refine aw_skip ?_
  refine ae_then ?_
  refine aw_seq ?_
  refine aR [] [0, 1, 13] [] [I x, I y, Bv false] [] [] hB trivial ?_
  refine aw_false rfl ?_
  refine aw_skip ?_
  refine ae_then ?_
  refine aw_seq ?_
  refine aw_seq ?_
  by_cases h1 : x < y
  ·refine aw_r [(2, .dec true)] [0, 1, 16] [] [I x, I y, Bv true] [] [x < y] hB ⟨h1, trivial⟩ ?_
   refine ae_then ?_
   refine aw_true rfl ?_
   refine aR [] [4] [] [I (-1)] [] [] hB trivial ?_
   refine aw_ret ?_
   refine ae_ret_then ?_
   refine ae_ret hB (I (-1)) (by kernel_rfl) (.inl (by refine congrArg I ?_; unfold cmpI; first | (rw [if_pos (by omega)]; done) | (rw [if_neg (by omega), if_pos (by omega)]; done) | (rw [if_neg (by omega), if_neg (by omega)]; done))) rfl (fun _ => trivial)
  refine aw_r [(2, .dec false)] [0, 1, 16] [] [I x, I y, Bv false] [] [¬ (x < y)] hB ⟨h1, trivial⟩ ?_
  refine ae_then ?_
  refine aw_false rfl ?_
  refine aw_skip ?_
  refine ae_then ?_
  refine aw_seq ?_
  refine aw_seq ?_
  by_cases h2 : y < x
  ·refine aw_r [(2, .dec true)] [19] [] [Bv true] [] [y < x] hB ⟨h2, trivial⟩ ?_
   refine ae_then ?_
   refine aw_true rfl ?_
   refine aR [] [4] [] [I 1] [] [] hB trivial ?_
   refine aw_ret ?_
   refine ae_ret_then ?_
   refine ae_ret hB (I 1) (by kernel_rfl) (.inl (by refine congrArg I ?_; unfold cmpI; first | (rw [if_pos (by omega)]; done) | (rw [if_neg (by omega), if_pos (by omega)]; done) | (rw [if_neg (by omega), if_neg (by omega)]; done))) rfl (fun _ => trivial)
  refine aw_r [(2, .dec false)] [19] [] [Bv false] [] [¬ (y < x)] hB ⟨h2, trivial⟩ ?_
  refine ae_then ?_
  refine aw_false rfl ?_
  refine aw_skip ?_
  refine ae_then ?_
  refine aR [] [4] [] [I 0] [] [] hB trivial ?_
  refine aw_ret ?_
  refine ae_ret hB (I 0) (by kernel_rfl) (.inl (by refine congrArg I ?_; unfold cmpI; first | (rw [if_pos (by omega)]; done) | (rw [if_neg (by omega), if_pos (by omega)]; done) | (rw [if_neg (by omega), if_neg (by omega)]; done))) rfl (fun _ => trivial)


theorem bnd_next {a : List Feat} {ls : List (List Feat)} {band v : Int} {k : Nat} {bs : List Int} (h : bndOk a ls band k bs) (hk : k < ls.length) (hv : v = lbI a (at_ ls k) band) : bndOk a ls band (k + 1) (bs.set k v) := by
  refine ⟨by rw [List.length_set]; exact h.1, fun j hj hin => ?_⟩
  by_cases e : j = k
  · subst e; rw [at_set_same (by rw [h.1]; exact hk)]; exact hv
  · rw [at_set_oth e]; exact h.2 j (by omega) hin
theorem bnd_skip {a : List Feat} {ls : List (List Feat)} {band : Int} {k : Nat} {bs : List Int} (h : bndOk a ls band k bs) (hin : ¬ inL a ls band k = true) : bndOk a ls band (k + 1) bs := ⟨h.1, fun j hj h2 => by
  by_cases e : j = k
  · subst e; exact absurd h2 hin
  · exact h.2 j (by omega) h2⟩
theorem bnd_0 (a : List Feat) (ls : List (List Feat)) (band : Int) {n : Nat} (h : n = ls.length) : bndOk a ls band 0 (List.replicate n 0) := ⟨by simp [h], fun j hj => absurd hj (Nat.not_lt_zero _)⟩

-- impl.BoundOrder$1
theorem BoundOrder1_ok (i : Int) (j : Int) (bounds : List Int) (h1 : 0 ≤ i ∧ i < (bounds.length : Int)) (h2 : 0 ≤ j ∧ j < (bounds.length : Int)) : Con Try.prog 29 [I i, I j, .ptr false [slI false bounds]] true (I (cmpB bounds i j)) := by
  refine fn_ok (fn := Try.f29) (nt := 15) Try.func29 rfl rfl rfl rfl (by simp [taggedL, tagged, tagI]) fun B hB => ?_
  refine aw_lens (x := .ptr false [slI false bounds]) 2 rfl (fun len_bounds => ?_)
  simp [LenOK, LenL, cI, fI, slI] at len_bounds
  refine aR [] [0, 1, 2] [] [I i, I j, .ptr false [slI false bounds]] [] [] hB trivial ?_
  refine aR [(8, .call [(true, .any), (true, .any)] true (I (cmpI (at_ bounds i.toNat) (at_ bounds j.toNat))))] [5] [] [I (cmpI (at_ bounds i.toNat) (at_ bounds j.toNat))] [] [(0 : Int) ≤ i ∧ i < (bounds.length : Int), (0 : Int) ≤ j ∧ j < (bounds.length : Int), Con Try.prog 30 [I (at_ bounds i.toNat), I (at_ bounds j.toNat)] true (I (cmpI (at_ bounds i.toNat) (at_ bounds j.toNat))) ∧ True] hB ⟨⟨(by omega), (by omega)⟩, ⟨(by omega), (by omega)⟩, ⟨(CompareI_ok (at_ bounds i.toNat) (at_ bounds j.toNat)), trivial⟩, trivial⟩ ?_
  refine aw_ret ?_
  refine ae_ret hB (I (cmpI (at_ bounds i.toNat) (at_ bounds j.toNat))) (by kernel_rfl) (.inl (by first | rfl | (refine congrArg Bv ?_; simp [*]; done) | (refine congrArg Bv ?_; simp [*]; omega) | (refine congrArg Bv ?_; simp_all []; done) | (refine congrArg Bv ?_; simp_all []; omega))) rfl (fun _ => trivial)


-- impl.BoundOrder
theorem stBins_ok (data : List Int) (a : Int) (b : Int) (bounds : List Int) (hb : a = 0 ∧ b = (data.length : Int)) (hl : data.length < 20) (hcl : ∀ x ∈ data, 0 ≤ x ∧ x < (bounds.length : Int)) : ∃ (data' : List Int), (data' = isoL (cmpB bounds) data data.length) ∧ CallOK Try.prog 74 [.arr 7212, I a, I b, .fn 29 [.ptr false [slI false bounds]]] (lookO [(7212, .arr 1 data.length (fI data))]) true (.tup []) (lookO [(7212, .arr 1 data'.length (fI data'))]) := by
  have hh : ∃ r : (List Int), ((r = isoL (cmpB bounds) data data.length) ∧ (True)) ∧ CallOK Try.prog 74 [.arr 7212, I a, I b, .fn 29 [.ptr false [slI false bounds]]] (lookO [(7212, .arr 1 data.length (fI data))]) true (.tup []) (lookO [(7212, .arr 1 r.length (fI r))]) := by
    refine fn_okX (Φ := fun r : (List Int) => (r = isoL (cmpB bounds) data data.length) ∧ (True)) [(7212, .arr 1 data.length (fI data))] (fun r => [(7212, .arr 1 r.length (fI r))]) (fn := Try.f74) (nt := 53) Try.func74 rfl rfl (args := [.arr 7212, I a, I b, .fn 29 [.ptr false [slI false bounds]]]) rfl (allcons (.inr trivial) (allcons (.inl ⟨rfl, trivial⟩) (allcons (.inl ⟨rfl, trivial⟩) (allcons (.inl ⟨rfl, by simp [tagged, taggedL, tagI]⟩) allnil)))) (res := fun r => .tup []) ?_
    refine xR [] [0, 1, 2, 3, 8] [7212] [.arr 7212, I a, I b, .fn 29 [.ptr false [slI false bounds]], I (a + 1)] [some (.arr 1 data.length (fI data))] [inR .i64 (a + 1)] ⟨(inR_i64 (by omega) (by omega)), trivial⟩ ?_
    refine x_block ?_
    refine x_loop (X := Int × (List Int)) (fun x => mkS [(0, .arr 7212), (1, I a), (2, I b), (3, .fn 29 [.ptr false [slI false bounds]]), (8, I x.1)] [(7212, .arr 1 x.2.length (fI x.2))]) (fun x => (1 ≤ x.1 ∧ (x.1 ≤ (data.length : Int) ∨ x.1 = 1)) ∧ (x.2 = isoL (cmpB bounds) data (min x.1.toNat data.length) ++ data.drop x.1.toNat) ∧ True) (fun x => ((data.length : Int) - x.1).toNat) ((a + 1), data) rfl (show (1 ≤ (a + 1) ∧ ((a + 1) ≤ (data.length : Int) ∨ (a + 1) = 1)) ∧ (data = isoL (cmpB bounds) data (min (a + 1).toNat data.length) ++ data.drop (a + 1).toNat) ∧ True from ⟨(by omega), (by first | exact iso_start _ _ | (rw [show (a + 1).toNat = 1 from by omega]; exact iso_start _ _)), trivial⟩) (fun x hI => ?_)
    obtain ⟨i, ys⟩ := x
    obtain ⟨hi0, hys, _⟩ : (1 ≤ i ∧ (i ≤ (data.length : Int) ∨ i = 1)) ∧ (ys = isoL (cmpB bounds) data (min i.toNat data.length) ++ data.drop i.toNat) ∧ True := hI
    show XW _ _ _ _ (mkS [(0, .arr 7212), (1, I a), (2, I b), (3, .fn 29 [.ptr false [slI false bounds]]), (8, I i)] [(7212, .arr 1 ys.length (fI ys))]) _ _
    refine x_seq ?_
    refine x_seq ?_
    by_cases h1 : i < b
    ·have hi : i.toNat < data.length := by omega
     have hmi : min i.toNat data.length = i.toNat := by omega
     rw [hmi, iso_in hi] at hys
     have hpl := isoL_len (cmpB bounds) data i.toNat
     have hyl : ys.length = data.length := by rw [hys, List.length_append, shf_len (by omega), List.length_drop, hpl]; omega
     refine x_r [(2, .dec true)] [0, 1, 2, 3, 8, 14] [7212] [.arr 7212, I a, I b, .fn 29 [.ptr false [slI false bounds]], I i, Bv true] [some (.arr 1 ys.length (fI ys))] [i < b] ⟨h1, trivial⟩ ?_
     refine xe_then ?_
     refine x_true rfl ?_
     refine x_skip ?_
     refine xe_then ?_
     refine x_seq ?_
     refine x_block ?_
     refine xR [] [0, 1, 2, 3, 8, 9] [7212] [.arr 7212, I a, I b, .fn 29 [.ptr false [slI false bounds]], I i, I i] [some (.arr 1 ys.length (fI ys))] [] trivial ?_
     refine x_block ?_
     refine x_loop (X := Int × (List Int)) (fun x => mkS [(0, .arr 7212), (1, I a), (2, I b), (3, .fn 29 [.ptr false [slI false bounds]]), (8, I i), (9, I x.1)] [(7212, .arr 1 x.2.length (fI x.2))]) (fun x => (0 ≤ x.1 ∧ x.1 ≤ i) ∧ (x.2 = shfL (isoL (cmpB bounds) data i.toNat) (at_ data i.toNat) x.1.toNat ++ data.drop (i.toNat + 1)) ∧ (∀ k : Nat, x.1 ≤ (k : Int) → (k : Int) < i → (cmpB bounds) (at_ data i.toNat) (at_ (isoL (cmpB bounds) data i.toNat) k) < 0) ∧ True) (fun x => x.1.toNat) (i, ys) rfl (show (0 ≤ i ∧ i ≤ i) ∧ (ys = shfL (isoL (cmpB bounds) data i.toNat) (at_ data i.toNat) i.toNat ++ data.drop (i.toNat + 1)) ∧ (∀ k : Nat, i ≤ (k : Int) → (k : Int) < i → (cmpB bounds) (at_ data i.toNat) (at_ (isoL (cmpB bounds) data i.toNat) k) < 0) ∧ True from ⟨(by omega), (by first | exact hys | (rw [hys]; done)), (by intro k h1 h2; omega), trivial⟩) (fun x hI => ?_)
     obtain ⟨j, ys'⟩ := x
     obtain ⟨hj0, hin, hgt, _⟩ : (0 ≤ j ∧ j ≤ i) ∧ (ys' = shfL (isoL (cmpB bounds) data i.toNat) (at_ data i.toNat) j.toNat ++ data.drop (i.toNat + 1)) ∧ (∀ k : Nat, j ≤ (k : Int) → (k : Int) < i → (cmpB bounds) (at_ data i.toNat) (at_ (isoL (cmpB bounds) data i.toNat) k) < 0) ∧ True := hI
     show XW _ _ _ _ (mkS [(0, .arr 7212), (1, I a), (2, I b), (3, .fn 29 [.ptr false [slI false bounds]]), (8, I i), (9, I j)] [(7212, .arr 1 ys'.length (fI ys'))]) _ _
     refine x_seq ?_
     refine x_seq ?_
     by_cases h2 : a < j
     ·have hyl' : ys'.length = data.length := by rw [hin, List.length_append, shf_len (by omega), List.length_drop, hpl]; omega
      have e1 : at_ ys' j.toNat = (at_ data i.toNat) := by rw [hin]; exact shf_at (by omega)
      have e2 : at_ ys' (j - 1).toNat = at_ (isoL (cmpB bounds) data i.toNat) (j.toNat - 1) := by rw [hin, shf_below (by omega) (by omega)]; congr 1; omega
      have hce1 := hcl _ (at_mem hi)
      rw [← e1] at hce1
      have hce2 := iso_all (c := (cmpB bounds)) hcl i.toNat (by omega) _ (at_mem (xs := (isoL (cmpB bounds) data i.toNat)) (i := j.toNat - 1) (by omega))
      rw [← e2] at hce2
      by_cases h3 : (cmpB bounds (at_ ys' j.toNat) (at_ ys' ((j - 1).toNat))) < 0
      ·have hq := h3
       rw [e1, e2] at hq
       have hst : (ys'.set j.toNat (at_ ys' (j - 1).toNat)).set (j - 1).toNat (at_ ys' j.toNat) = shfL (isoL (cmpB bounds) data i.toNat) (at_ data i.toNat) (j - 1).toNat ++ data.drop (i.toNat + 1) := by have q := shf_step (p := (isoL (cmpB bounds) data i.toNat)) (x := (at_ data i.toNat)) (r := data.drop (i.toNat + 1)) (j := (j - 1).toNat) (by omega); rw [show (j - 1).toNat + 1 = j.toNat from by omega] at q; rw [e1, e2, hin, ← q, show j.toNat - 1 = (j - 1).toNat from by omega]
       have hgn : ∀ k : Nat, j - 1 ≤ (k : Int) → (k : Int) < i → (cmpB bounds) (at_ data i.toNat) (at_ (isoL (cmpB bounds) data i.toNat) k) < 0 := fun k h1 h2 => by by_cases e : (k : Int) = j - 1; (rw [show k = j.toNat - 1 from by omega]; exact hq); exact hgt k (by omega) h2
       refine x_r [(2, .dec true), (14, .call [(true, .any), (true, .any), (true, .any)] true (I (cmpB bounds (at_ ys' j.toNat) (at_ ys' ((j - 1).toNat))))), (15, .dec true)] [0, 1, 2, 3, 8, 9, 34] [7212] [.arr 7212, I a, I b, .fn 29 [.ptr false [slI false bounds]], I i, I j, Bv true] [some (.arr 1 ys'.length (fI ys'))] [a < j, (0 : Int) ≤ j ∧ j < (ys'.length : Int), j.toNat < ys'.length, inR .i64 (j - 1), (0 : Int) ≤ (j - 1) ∧ (j - 1) < (ys'.length : Int), (j - 1).toNat < ys'.length, Con Try.prog 29 [I (at_ ys' j.toNat), I (at_ ys' ((j - 1).toNat)), .ptr false [slI false bounds]] true (I (cmpB bounds (at_ ys' j.toNat) (at_ ys' ((j - 1).toNat)))) ∧ True, (cmpB bounds (at_ ys' j.toNat) (at_ ys' ((j - 1).toNat))) < 0] ⟨h2, ⟨(by omega), (by omega)⟩, (by omega), (inR_i64 (by omega) (by omega)), ⟨(by omega), (by omega)⟩, (by omega), ⟨(BoundOrder1_ok (at_ ys' j.toNat) (at_ ys' ((j - 1).toNat)) bounds (by omega) (by omega)), trivial⟩, h3, trivial⟩ ?_
       refine xe_then ?_
       refine x_true rfl ?_
       refine x_skip ?_
       refine xe_then ?_
       refine x_seq ?_
       refine x_block ?_
       refine x_r [] [0, 1, 2, 3, 8, 9] [7212] [.arr 7212, I a, I b, .fn 29 [.ptr false [slI false bounds]], I i, I j] [some (.arr 1 ys'.length (fun q => bif Nat.beq q ((j - 1).toNat) then spl ((fun q => bif Nat.beq q j.toNat then [I (at_ ys' ((j - 1).toNat))] else (fI ys') q) ((j - 1).toNat)) 0 [I (at_ ys' j.toNat)] else (fun q => bif Nat.beq q j.toNat then [I (at_ ys' ((j - 1).toNat))] else (fI ys') q) q))] [inR .i64 (j - 1), inR .i64 (j - 1), (0 : Int) ≤ (j - 1) ∧ (j - 1) < (ys'.length : Int), (j - 1).toNat < ys'.length, (0 : Int) ≤ j ∧ j < (ys'.length : Int), j.toNat < ys'.length, (0 : Int) ≤ j ∧ j < (ys'.length : Int), j.toNat < ys'.length, (0 : Int) ≤ (j - 1) ∧ (j - 1) < (ys'.length : Int), (j - 1).toNat < ys'.length] ⟨(inR_i64 (by omega) (by omega)), (inR_i64 (by omega) (by omega)), ⟨(by omega), (by omega)⟩, (by omega), ⟨(by omega), (by omega)⟩, (by omega), ⟨(by omega), (by omega)⟩, (by omega), ⟨(by omega), (by omega)⟩, (by omega), trivial⟩ ?_
       refine xe_block 3 ?_
       refine xe_then ?_
       refine x_r [] [0, 1, 2, 3, 8, 9] [7212] [.arr 7212, I a, I b, .fn 29 [.ptr false [slI false bounds]], I i, I (j - 1)] [some (.arr 1 ys'.length (fun q => bif Nat.beq q ((j - 1).toNat) then spl ((fun q => bif Nat.beq q j.toNat then [I (at_ ys' ((j - 1).toNat))] else (fI ys') q) ((j - 1).toNat)) 0 [I (at_ ys' j.toNat)] else (fun q => bif Nat.beq q j.toNat then [I (at_ ys' ((j - 1).toNat))] else (fI ys') q) q))] [inR .i64 (j - 1)] ⟨(inR_i64 (by omega) (by omega)), trivial⟩ ?_
       refine xe_weak [] (T := [(0, .arr 7212), (1, I a), (2, I b), (3, .fn 29 [.ptr false [slI false bounds]]), (8, I i), (9, I (j - 1))]) (O := [(7212, .arr 1 (((ys'.set j.toNat (at_ ys' ((j - 1).toNat))).set ((j - 1).toNat) (at_ ys' j.toNat)).length) (fI ((ys'.set j.toNat (at_ ys' ((j - 1).toNat))).set ((j - 1).toNat) (at_ ys' j.toNat))))]) rfl (⟨.inl rfl, .inl rfl, .inl rfl, .inl rfl, .inl rfl, .inl rfl, trivial⟩) (⟨.inr ⟨rfl, (by first | rfl | (simp; done) | (simp; omega) | omega), fun i_ hi_ => .inl (upd_spl (enc := cI) (fun i_ hi_ => (upd_enc (enc := cI) rfl i_ hi_)) ((by first | omega | (simp only [List.length_set]; omega))) rfl i_ hi_)⟩, trivial⟩) (xe_again ((j - 1), ((ys'.set j.toNat (at_ ys' ((j - 1).toNat))).set ((j - 1).toNat) (at_ ys' j.toNat))) rfl (show (0 ≤ (j - 1) ∧ (j - 1) ≤ i) ∧ (((ys'.set j.toNat (at_ ys' ((j - 1).toNat))).set ((j - 1).toNat) (at_ ys' j.toNat)) = shfL (isoL (cmpB bounds) data i.toNat) (at_ data i.toNat) (j - 1).toNat ++ data.drop (i.toNat + 1)) ∧ (∀ k : Nat, (j - 1) ≤ (k : Int) → (k : Int) < i → (cmpB bounds) (at_ data i.toNat) (at_ (isoL (cmpB bounds) data i.toNat) k) < 0) ∧ True from ⟨(by omega), (by exact hst), (by exact hgn), trivial⟩) (by first | (show ((j - 1).toNat : Nat) < j.toNat; omega) | (dsimp only; omega)))
      have hq := h3
      rw [e1, e2] at hq
      have hio := iso_out (c := (cmpB bounds)) (xs := data) (i := i.toNat) (j := j.toNat) (by omega) (fun k h1 h2 => hgt k (by omega) (by omega)) (Or.inr hq)
      rw [hio] at hin
      refine x_r [(2, .dec true), (14, .call [(true, .any), (true, .any), (true, .any)] true (I (cmpB bounds (at_ ys' j.toNat) (at_ ys' ((j - 1).toNat))))), (15, .dec false)] [0, 1, 2, 3, 8, 9, 34] [7212] [.arr 7212, I a, I b, .fn 29 [.ptr false [slI false bounds]], I i, I j, Bv false] [some (.arr 1 ys'.length (fI ys'))] [a < j, (0 : Int) ≤ j ∧ j < (ys'.length : Int), j.toNat < ys'.length, inR .i64 (j - 1), (0 : Int) ≤ (j - 1) ∧ (j - 1) < (ys'.length : Int), (j - 1).toNat < ys'.length, Con Try.prog 29 [I (at_ ys' j.toNat), I (at_ ys' ((j - 1).toNat)), .ptr false [slI false bounds]] true (I (cmpB bounds (at_ ys' j.toNat) (at_ ys' ((j - 1).toNat)))) ∧ True, ¬ ((cmpB bounds (at_ ys' j.toNat) (at_ ys' ((j - 1).toNat))) < 0)] ⟨h2, ⟨(by omega), (by omega)⟩, (by omega), (inR_i64 (by omega) (by omega)), ⟨(by omega), (by omega)⟩, (by omega), ⟨(BoundOrder1_ok (at_ ys' j.toNat) (at_ ys' ((j - 1).toNat)) bounds (by omega) (by omega)), trivial⟩, h3, trivial⟩ ?_
      refine xe_then ?_
      refine x_false rfl ?_
      refine x_exit ?_
      refine xe_exit_then ?_
      refine xe_loop_exit ?_
      refine xe_exit_same ?_
      refine xe_block 1 ?_
      refine xe_then ?_
      refine x_r [] [0, 1, 2, 3, 8] [7212] [.arr 7212, I a, I b, .fn 29 [.ptr false [slI false bounds]], I (i + 1)] [some (.arr 1 ys'.length (fI ys'))] [inR .i64 (i + 1)] ⟨(inR_i64 (by omega) (by omega)), trivial⟩ ?_
      exact xe_again ((i + 1), ys') rfl (show (1 ≤ (i + 1) ∧ ((i + 1) ≤ (data.length : Int) ∨ (i + 1) = 1)) ∧ (ys' = isoL (cmpB bounds) data (min (i + 1).toNat data.length) ++ data.drop (i + 1).toNat) ∧ True from ⟨(by omega), (by rw [hin, show (i + 1).toNat = i.toNat + 1 from by omega, show min (i.toNat + 1) data.length = i.toNat + 1 from by omega]), trivial⟩) (by first | (show (((data.length : Int) - (i + 1)).toNat : Nat) < ((data.length : Int) - i).toNat; omega) | (dsimp only; omega))
     have hio := iso_out (c := (cmpB bounds)) (xs := data) (i := i.toNat) (j := j.toNat) (by omega) (fun k h1 h2 => hgt k (by omega) (by omega)) (Or.inl (by omega))
     rw [hio] at hin
     refine x_r [(2, .dec false)] [0, 1, 2, 3, 8, 9, 34] [7212] [.arr 7212, I a, I b, .fn 29 [.ptr false [slI false bounds]], I i, I j, Bv false] [some (.arr 1 ys'.length (fI ys'))] [¬ (a < j)] ⟨h2, trivial⟩ ?_
     refine xe_then ?_
     refine x_false rfl ?_
     refine x_exit ?_
     refine xe_exit_then ?_
     refine xe_loop_exit ?_
     refine xe_exit_same ?_
     refine xe_block 1 ?_
     refine xe_then ?_
     refine x_r [] [0, 1, 2, 3, 8] [7212] [.arr 7212, I a, I b, .fn 29 [.ptr false [slI false bounds]], I (i + 1)] [some (.arr 1 ys'.length (fI ys'))] [inR .i64 (i + 1)] ⟨(inR_i64 (by omega) (by omega)), trivial⟩ ?_
     exact xe_again ((i + 1), ys') rfl (show (1 ≤ (i + 1) ∧ ((i + 1) ≤ (data.length : Int) ∨ (i + 1) = 1)) ∧ (ys' = isoL (cmpB bounds) data (min (i + 1).toNat data.length) ++ data.drop (i + 1).toNat) ∧ True from ⟨(by omega), (by rw [hin, show (i + 1).toNat = i.toNat + 1 from by omega, show min (i.toNat + 1) data.length = i.toNat + 1 from by omega]), trivial⟩) (by first | (show (((data.length : Int) - (i + 1)).toNat : Nat) < ((data.length : Int) - i).toNat; omega) | (dsimp only; omega))
    have hyf : ys = isoL (cmpB bounds) data data.length := by rw [hys, show min i.toNat data.length = data.length from by omega, List.drop_eq_nil_of_le (by omega), List.append_nil]
    refine x_r [(2, .dec false)] [0, 1, 2, 3, 8, 14] [7212] [.arr 7212, I a, I b, .fn 29 [.ptr false [slI false bounds]], I i, Bv false] [some (.arr 1 ys.length (fI ys))] [¬ (i < b)] ⟨h1, trivial⟩ ?_
    refine xe_then ?_
    refine x_false rfl ?_
    refine x_exit ?_
    refine xe_exit_then ?_
    refine xe_loop_exit ?_
    refine xe_exit_same ?_
    refine xe_norm ys (show (ys = isoL (cmpB bounds) data data.length) ∧ (True) from ⟨(by exact hyf), trivial⟩) (⟨.inl rfl, trivial⟩) (.tup []) (by kernel_rfl) (.inl rfl) (fun _ => rfl) (fun _ => (by simp [tagged, taggedL]))
  obtain ⟨data', ⟨hh0, _⟩, hc⟩ := hh
  exact ⟨data', hh0, hc⟩

theorem stBstb_ok (data : List Int) (n : Int) (bounds : List Int) (hb : n = (data.length : Int)) (hl : data.length < 20) (hcl : ∀ x ∈ data, 0 ≤ x ∧ x < (bounds.length : Int)) : ∃ (data' : List Int), (data' = isoL (cmpB bounds) data data.length) ∧ CallOK Try.prog 49 [.arr 7212, I n, .fn 29 [.ptr false [slI false bounds]]] (lookO [(7212, .arr 1 data.length (fI data))]) true (.tup []) (lookO [(7212, .arr 1 data'.length (fI data'))]) := by
  have hh : ∃ r : (List Int), ((r = isoL (cmpB bounds) data data.length) ∧ (True)) ∧ CallOK Try.prog 49 [.arr 7212, I n, .fn 29 [.ptr false [slI false bounds]]] (lookO [(7212, .arr 1 data.length (fI data))]) true (.tup []) (lookO [(7212, .arr 1 r.length (fI r))]) := by
    refine fn_okX (Φ := fun r : (List Int) => (r = isoL (cmpB bounds) data data.length) ∧ (True)) [(7212, .arr 1 data.length (fI data))] (fun r => [(7212, .arr 1 r.length (fI r))]) (fn := Try.f49) (nt := 63) Try.func49 rfl rfl (args := [.arr 7212, I n, .fn 29 [.ptr false [slI false bounds]]]) rfl (allcons (.inr trivial) (allcons (.inl ⟨rfl, trivial⟩) (allcons (.inl ⟨rfl, by simp [tagged, taggedL, tagI]⟩) allnil))) (res := fun r => .tup []) ?_
    refine xR [] [0, 1, 2, 6] [7212] [.arr 7212, I n, .fn 29 [.ptr false [slI false bounds]], I 20] [some (.arr 1 data.length (fI data))] [] trivial ?_
    refine xR [] [0, 1, 2, 6, 7, 8] [7212] [.arr 7212, I n, .fn 29 [.ptr false [slI false bounds]], I 20, I 0, I 20] [some (.arr 1 data.length (fI data))] [] trivial ?_
    refine x_seq ?_
    refine x_block ?_
    refine x_loop (X := Int × Int × (List Int)) (fun x => mkS [(0, .arr 7212), (1, I n), (2, .fn 29 [.ptr false [slI false bounds]]), (6, I 20), (7, I x.1), (8, I x.2.1)] [(7212, .arr 1 x.2.2.length (fI x.2.2))]) (fun x => (x.1 = 0 ∧ x.2.1 = 20) ∧ (x.2.2 = data) ∧ True) (fun x => (0 : Nat)) (0, 20, data) rfl (show ((0 : Int) = 0 ∧ (20 : Int) = 20) ∧ (data = data) ∧ True from ⟨(by omega), (by rfl), trivial⟩) (fun x hI => ?_)
    obtain ⟨a, b, ys⟩ := x
    obtain ⟨hab, hyd, _⟩ : (a = 0 ∧ b = 20) ∧ (ys = data) ∧ True := hI
    show XW _ _ _ _ (mkS [(0, .arr 7212), (1, I n), (2, .fn 29 [.ptr false [slI false bounds]]), (6, I 20), (7, I a), (8, I b)] [(7212, .arr 1 ys.length (fI ys))]) _ _
    refine x_seq ?_
    refine xR [(2, .dec false)] [0, 1, 2, 6, 7, 8, 13] [7212] [.arr 7212, I n, .fn 29 [.ptr false [slI false bounds]], I 20, I a, I b, Bv false] [some (.arr 1 ys.length (fI ys))] [¬ (b ≤ n)] ⟨(by omega), trivial⟩ ?_
    refine x_false rfl ?_
    refine x_exit ?_
    refine xe_exit_then ?_
    refine xe_loop_exit ?_
    refine xe_exit_same ?_
    refine xe_then ?_
    refine x_seq ?_
    obtain ⟨data'_1, hx1_0, hc1⟩ := stBins_ok ys a n bounds (by first | omega | (subst_vars; omega)) (by first | omega | (subst_vars; omega)) (by first | exact hcl | (rw [hyd]; exact hcl))
    refine x_r [(4, .lend [(7212, .arr 1 ys.length (fI ys), .arr 1 data'_1.length (fI data'_1))] [] [(true, .any), (true, .any), (true, .any), (true, .any)] true (.tup []))] [0, 1, 2, 6] [7212] [.arr 7212, I n, .fn 29 [.ptr false [slI false bounds]], I 20] [some (.arr 1 data'_1.length (fI data'_1))] [CallOK Try.prog 74 [.arr 7212, I a, I n, .fn 29 [.ptr false [slI false bounds]]] (lookO [(7212, .arr 1 ys.length (fI ys))]) true (.tup []) (lookO [(7212, .arr 1 data'_1.length (fI data'_1))]) ∧ (((.arr 1 ys.length (fI ys) : Ob) = .arr 1 ys.length (fI ys) ∨ obLe noOb true (.arr 1 ys.length (fI ys)) (.arr 1 ys.length (fI ys))) ∧ taggedO false (.arr 1 ys.length (fI ys))) ∧ True] ⟨⟨hc1, ⟨.inl rfl, fun _ _ => tagcI false _⟩, trivial⟩, trivial⟩ ?_
    refine xe_then ?_
    refine x_block ?_
    refine x_loop (X := Int) (fun x => mkS [(0, .arr 7212), (1, I n), (2, .fn 29 [.ptr false [slI false bounds]]), (6, I x)] [(7212, .arr 1 data'_1.length (fI data'_1))]) (fun x => (x = 20) ∧ True) (fun x => (0 : Nat)) 20 rfl (show ((20 : Int) = 20) ∧ True from ⟨(by first | rfl | omega), trivial⟩) (fun x hI => ?_)
    obtain ⟨blockSize, hxx⟩ : ∃ blockSize : Int, blockSize = x := ⟨x, rfl⟩
    subst hxx
    obtain ⟨hbs, _⟩ : (blockSize = 20) ∧ True := hI
    show XW _ _ _ _ (mkS [(0, .arr 7212), (1, I n), (2, .fn 29 [.ptr false [slI false bounds]]), (6, I blockSize)] [(7212, .arr 1 data'_1.length (fI data'_1))]) _ _
    refine x_seq ?_
    refine xR [(2, .dec false)] [0, 1, 2, 6, 30] [7212] [.arr 7212, I n, .fn 29 [.ptr false [slI false bounds]], I blockSize, Bv false] [some (.arr 1 data'_1.length (fI data'_1))] [¬ (blockSize < n)] ⟨(by omega), trivial⟩ ?_
    refine x_false rfl ?_
    refine x_exit ?_
    refine xe_exit_then ?_
    refine xe_loop_exit ?_
    refine xe_exit_same ?_
    refine xe_norm data'_1 (show (data'_1 = isoL (cmpB bounds) data data.length) ∧ (True) from ⟨(by first | assumption | (rw [hx1_0, hyd])), trivial⟩) (⟨.inl rfl, trivial⟩) (.tup []) (by kernel_rfl) (.inl rfl) (fun _ => rfl) (fun _ => (by simp [tagged, taggedL]))
  obtain ⟨data', ⟨hh0, _⟩, hc⟩ := hh
  exact ⟨data', hh0, hc⟩

theorem stBsort_ok (data : List Int) (bounds : List Int) (hl : data.length < 20) (hcl : ∀ x ∈ data, 0 ≤ x ∧ x < (bounds.length : Int)) : ∃ (data' : List Int), (data' = isoL (cmpB bounds) data data.length) ∧ CallOK Try.prog 28 [.arr 7212, .fn 29 [.ptr false [slI false bounds]]] (lookO [(7212, .arr 1 data.length (fI data))]) true (.tup []) (lookO [(7212, .arr 1 data'.length (fI data'))]) := by
  have hh : ∃ r : (List Int), ((r = isoL (cmpB bounds) data data.length) ∧ (True)) ∧ CallOK Try.prog 28 [.arr 7212, .fn 29 [.ptr false [slI false bounds]]] (lookO [(7212, .arr 1 data.length (fI data))]) true (.tup []) (lookO [(7212, .arr 1 r.length (fI r))]) := by
    refine fn_okX (Φ := fun r : (List Int) => (r = isoL (cmpB bounds) data data.length) ∧ (True)) [(7212, .arr 1 data.length (fI data))] (fun r => [(7212, .arr 1 r.length (fI r))]) (fn := Try.f28) (nt := 9) Try.func28 rfl rfl (args := [.arr 7212, .fn 29 [.ptr false [slI false bounds]]]) rfl (allcons (.inr trivial) (allcons (.inl ⟨rfl, by simp [tagged, taggedL, tagI]⟩) allnil)) (res := fun r => .tup []) ?_
    obtain ⟨data'_1, hx1_0, hc1⟩ := stBstb_ok data (data.length : Int) bounds (by first | rfl | omega) (by omega) hcl
    refine x_r [(4, .lend [(7212, .arr 1 data.length (fI data), .arr 1 data'_1.length (fI data'_1))] [] [(true, .any), (true, .any), (true, .any)] true (.tup []))] [] [7212] [] [some (.arr 1 data'_1.length (fI data'_1))] [CallOK Try.prog 49 [.arr 7212, I (data.length : Int), .fn 29 [.ptr false [slI false bounds]]] (lookO [(7212, .arr 1 data.length (fI data))]) true (.tup []) (lookO [(7212, .arr 1 data'_1.length (fI data'_1))]) ∧ (((.arr 1 data.length (fI data) : Ob) = .arr 1 data.length (fI data) ∨ obLe noOb true (.arr 1 data.length (fI data)) (.arr 1 data.length (fI data))) ∧ taggedO false (.arr 1 data.length (fI data))) ∧ True] ⟨⟨hc1, ⟨.inl rfl, fun _ _ => tagcI false _⟩, trivial⟩, trivial⟩ ?_
    refine xe_norm data'_1 (show (data'_1 = isoL (cmpB bounds) data data.length) ∧ (True) from ⟨(by first | assumption | omega), trivial⟩) (⟨.inl rfl, trivial⟩) (.tup []) (by kernel_rfl) (.inl rfl) (fun _ => rfl) (fun _ => (by simp [tagged, taggedL]))
  obtain ⟨data', ⟨hh0, _⟩, hc⟩ := hh
  exact ⟨data', hh0, hc⟩

theorem BoundOrder_ok (a : List Feat) (lists : List (List Feat)) (band : Int) (oka : okFeats a 72 = true) (hls : lists.length ≤ 18 ∧ ∀ l ∈ lists, okFeats l 72 = true) (hbd : 0 ≤ band ∧ band ≤ 72) : ∃ (v : List Int) (c : Int), (boOk a lists band v) ∧ (c = 0) ∧ Con Try.prog 9 [slFeat false a, slLFeat false lists, I band] true (.tup [slI true v, I c]) := by
  have hh : ∃ r : (List Int) × Int, ((boOk a lists band r.1) ∧ (r.2 = 0) ∧ (True)) ∧ CallOK Try.prog 9 [slFeat false a, slLFeat false lists, I band] (lookO []) true (.tup [slI true r.1, I r.2]) (lookO []) := by
    refine fn_okX (Φ := fun r : (List Int) × Int => (boOk a lists band r.1) ∧ (r.2 = 0) ∧ (True)) [] (fun r => []) (fn := Try.f9) (nt := 52) Try.func9 rfl rfl (args := [slFeat false a, slLFeat false lists, I band]) rfl (allcons (.inl ⟨rfl, tagFeat false _⟩) (allcons (.inl ⟨rfl, tagLFeat false _⟩) (allcons (.inl ⟨rfl, trivial⟩) allnil))) (res := fun r => .tup [slI true r.1, I r.2]) ?_
    refine xR [] [0, 1, 2] [] [slFeat false a, slLFeat false lists, I band] [] [] trivial ?_
    refine x_seq ?_
    refine xR [(3, .call [(true, .any), (true, .any), (true, .any)] true (I 0))] [0, 1, 2, 8] [] [slFeat false a, slLFeat false lists, I band, I 0] [] [Con Try.prog 24 [slFeat false a, slLFeat false lists, I band] true (I 0) ∧ True] ⟨⟨(searchable_ok a lists band oka hls hbd), trivial⟩, trivial⟩ ?_
    refine xR [(1, .dec false)] [0, 1, 2, 8, 18] [] [slFeat false a, slLFeat false lists, I band, I 0, Bv false] [] [¬ ((0 : Int) ≠ 0)] ⟨(fun hq => hq (by decide)), trivial⟩ ?_
    refine x_false rfl ?_
    refine x_skip ?_
    refine xe_then ?_
    refine xR [] [0, 1, 2, 9] [] [slFeat false a, slLFeat false lists, I band, nilA] [] [] trivial ?_
    refine xR [(2, .new 22), (3, .new 10)] [0, 1, 2, 9, 10] [10, 22] [slFeat false a, slLFeat false lists, I band, nilA, .ref 10 0] [some (.box [.arr 22]), some (.arr 1 ((lists.length : Int).toNat) (fun _ => [I 0]))] [(0 : Int) ≤ (lists.length : Int) ∧ ((lists.length : Int) : Int) ≤ (lists.length : Int) ∧ (8 : Int) * (lists.length : Int) ≤ 281474976710656 ∧ (lists.length : Int) ≤ 9223372036854775807] ⟨⟨(by omega), (by omega), (by omega), (by omega)⟩, trivial⟩ ?_
    refine x_seq ?_
    refine xR [] [0, 2, 9, 10, 23, 24, 25] [10, 22] [slFeat false a, I band, nilA, .ref 10 0, slLFeat false lists, I (lists.length : Int), I 0] [some (.box [.arr 22]), some (.arr 1 ((lists.length : Int).toNat) (fun _ => [I 0]))] [] trivial ?_
    refine x_block ?_
    refine x_nil 9 709 1 (fun _ => []) (by kernel_rfl) ?_
    refine x_weak [] (T := [(0, slFeat false a), (2, I band), (9, .arr 709), (10, .ref 10 0), (23, slLFeat false lists), (24, I (lists.length : Int)), (25, I 0)]) (O := [(10, .box [.arr 22]), (22, .arr 1 ((List.replicate ((lists.length : Int).toNat) 0).length) (fI (List.replicate ((lists.length : Int).toNat) 0))), (709, .arr 1 (([] : List Int).length) (fI ([] : List Int)))]) rfl (⟨.inl rfl, .inl rfl, .inl rfl, .inl rfl, .inl rfl, .inl rfl, .inl rfl, trivial⟩) (⟨.inl rfl, .inr ⟨rfl, (by first | rfl | (simp; done) | (simp; omega) | omega), fun i_ hi_ => .inl (const_enc (enc := cI) rfl i_ hi_)⟩, .inr ⟨rfl, (by first | rfl | (simp; done) | (simp; omega) | omega), fun i_ hi_ => absurd hi_ (Nat.not_lt_zero _)⟩, trivial⟩) ?_
    refine x_loop (X := (List Int) × Int × (List Int)) (fun x => mkS [(0, slFeat false a), (2, I band), (9, .arr 709), (10, .ref 10 0), (23, slLFeat false lists), (24, I (lists.length : Int)), (25, I x.2.1)] [(10, .box [.arr 22]), (22, .arr 1 x.2.2.length (fI x.2.2)), (709, .arr 1 x.1.length (fI x.1))]) (fun x => (0 ≤ x.2.1 ∧ x.2.1 ≤ (lists.length : Int)) ∧ (x.1 = ordN a lists band x.2.1.toNat) ∧ (bndOk a lists band x.2.1.toNat x.2.2) ∧ (x.1.length ≤ 18) ∧ True) (fun x => ((lists.length : Int) - x.2.1).toNat) (([] : List Int), 0, (List.replicate ((lists.length : Int).toNat) 0)) rfl (show (0 ≤ (0 : Int) ∧ (0 : Int) ≤ (lists.length : Int)) ∧ (([] : List Int) = ordN a lists band (0 : Int).toNat) ∧ (bndOk a lists band (0 : Int).toNat (List.replicate ((lists.length : Int).toNat) 0)) ∧ (([] : List Int).length ≤ 18) ∧ True from ⟨(by omega), (by rfl), (by exact bnd_0 a lists band (by first | rfl | omega | simp)), (by simp), trivial⟩) (fun x hI => ?_)
    obtain ⟨od, t25, bs⟩ := x
    obtain ⟨hi0, hod, hbs, hoq, _⟩ : (0 ≤ t25 ∧ t25 ≤ (lists.length : Int)) ∧ (od = ordN a lists band t25.toNat) ∧ (bndOk a lists band t25.toNat bs) ∧ (od.length ≤ 18) ∧ True := hI
    show XW _ _ _ _ (mkS [(0, slFeat false a), (2, I band), (9, .arr 709), (10, .ref 10 0), (23, slLFeat false lists), (24, I (lists.length : Int)), (25, I t25)] [(10, .box [.arr 22]), (22, .arr 1 bs.length (fI bs)), (709, .arr 1 od.length (fI od))]) _ _
    refine x_seq ?_
    by_cases h1 : t25 < (lists.length : Int)
    ·have hi : t25.toNat < lists.length := by omega
     have hix : ((t25.toNat : Nat) : Int) = t25 := by omega
     have hnx : (t25 + 1).toNat = t25.toNat + 1 := by omega
     have okl := hls.2 _ (at_mem hi)
     have hna := okFeats_n oka
     have hnl := okFeats_n okl
     have hol := ord_len a lists band t25.toNat
     have hbl := hbs.1
     refine x_r [(0, .dec true)] [0, 2, 9, 10, 23, 24, 25, 26] [10, 22, 709] [slFeat false a, I band, .arr 709, .ref 10 0, slLFeat false lists, I (lists.length : Int), I t25, Bv true] [some (.box [.arr 22]), some (.arr 1 bs.length (fI bs)), some (.arr 1 od.length (fI od))] [t25 < (lists.length : Int)] ⟨h1, trivial⟩ ?_
     refine xe_then ?_
     refine x_seq ?_
     refine x_true rfl ?_
     refine x_skip ?_
     refine xe_then ?_
     refine x_seq ?_
     refine x_block ?_
     refine xR [] [0, 2, 9, 10, 11, 12, 23, 24, 25] [10, 22, 709] [slFeat false a, I band, .arr 709, .ref 10 0, I t25, slFeat false (at_ lists t25.toNat), slLFeat false lists, I (lists.length : Int), I t25] [some (.box [.arr 22]), some (.arr 1 bs.length (fI bs)), some (.arr 1 od.length (fI od))] [(0 : Int) ≤ t25 ∧ t25 < (lists.length : Int)] ⟨⟨(by omega), (by omega)⟩, trivial⟩ ?_
     refine x_seq ?_
     rcases Bool.eq_false_or_eq_true (inB band 0 72 && decide ((((a.length : Int) - (((at_ lists t25.toNat).length) : Int)).natAbs : Int) ≤ band)) with h2 | h2
     ·have hin : inL a lists band t25.toNat = true := h2
      have hinb : inBd band a.length (at_ lists t25.toNat).length := (band_of3 h2)
      have hce : cv farI a (at_ lists t25.toNat) band (a.length - 1) ((at_ lists t25.toNat).length - 1) = cstL a lists band t25.toNat := cst_eq oka okl hinb
      have hlbl : lbI a (at_ lists t25.toNat) band ≤ cstL a lists band t25.toNat := lb_le oka okl hinb
      refine x_r [(5, .call [(true, .any), (true, .any), (true, .any)] true (Bv true))] [0, 2, 9, 10, 11, 12, 23, 24, 25, 35] [10, 22, 709] [slFeat false a, I band, .arr 709, .ref 10 0, I t25, slFeat false (at_ lists t25.toNat), slLFeat false lists, I (lists.length : Int), I t25, Bv true] [some (.box [.arr 22]), some (.arr 1 bs.length (fI bs)), some (.arr 1 od.length (fI od))] [Con Try.prog 25 [I band, I (a.length : Int), I (((at_ lists t25.toNat).length) : Int)] true (Bv true) ∧ True] ⟨⟨(con_bool h2 (isBand_ok band (a.length : Int) (((at_ lists t25.toNat).length) : Int) (by omega) (by omega))), trivial⟩, trivial⟩ ?_
      refine xe_then ?_
      refine x_true rfl ?_
      refine xR [(2, .new 38), (3, .new 39)] [0, 2, 9, 10, 11, 12, 23, 24, 25] [10, 22, 39] [slFeat false a, I band, .arr 39, .ref 10 0, I t25, slFeat false (at_ lists t25.toNat), slLFeat false lists, I (lists.length : Int), I t25] [some (.box [.arr 22]), some (.arr 1 bs.length (fI bs)), some (.arr 1 (od.length + 1) (catF od.length (fI od) (litF [I t25] 1)))] [(od.length + 1) * 8 ≤ 140737488355328] ⟨(by omega), trivial⟩ ?_
      obtain ⟨v_1, hx1_0, hc1⟩ := lowerBound_ok a (at_ lists t25.toNat) band oka okl hbd hinb
      have hlv := hx1_0
      refine x_r [(5, .call [(true, .any), (true, .any), (true, .any)] true (I v_1))] [0, 2, 9, 10, 23, 24, 25] [10, 22, 39] [slFeat false a, I band, .arr 39, .ref 10 0, slLFeat false lists, I (lists.length : Int), I t25] [some (.box [.arr 22]), some (.arr 1 bs.length (fun q => bif Nat.beq q t25.toNat then [I v_1] else (fI bs) q)), some (.arr 1 (od.length + 1) (catF od.length (fI od) (litF [I t25] 1)))] [Con Try.prog 26 [slFeat false a, slFeat false (at_ lists t25.toNat), I band] true (I v_1) ∧ True, (0 : Int) ≤ t25 ∧ t25 < (bs.length : Int), t25.toNat < bs.length] ⟨⟨hc1, trivial⟩, ⟨(by omega), (by omega)⟩, (by omega), trivial⟩ ?_
      refine xe_block 1 ?_
      refine xe_then ?_
      refine x_r [] [0, 2, 9, 10, 23, 24, 25] [10, 22, 39] [slFeat false a, I band, .arr 39, .ref 10 0, slLFeat false lists, I (lists.length : Int), I (t25 + 1)] [some (.box [.arr 22]), some (.arr 1 bs.length (fun q => bif Nat.beq q t25.toNat then [I v_1] else (fI bs) q)), some (.arr 1 (od.length + 1) (catF od.length (fI od) (litF [I t25] 1)))] [inR .i64 (t25 + 1)] ⟨(inR_i64 (by omega) (by omega)), trivial⟩ ?_
      refine xe_weak [(709, 39)] (T := [(0, slFeat false a), (2, I band), (9, .arr 709), (10, .ref 10 0), (23, slLFeat false lists), (24, I (lists.length : Int)), (25, I (t25 + 1))]) (O := [(10, .box [.arr 22]), (22, .arr 1 ((bs.set t25.toNat v_1).length) (fI (bs.set t25.toNat v_1))), (709, .arr 1 ((od ++ [t25]).length) (fI (od ++ [t25])))]) rfl (⟨.inl rfl, .inl rfl, .inl rfl, .inl rfl, .inl rfl, .inl rfl, .inl rfl, trivial⟩) (⟨.inl rfl, .inr ⟨rfl, (by first | rfl | (simp; done) | (simp; omega) | omega), fun i_ hi_ => .inl (upd_enc (enc := cI) rfl i_ hi_)⟩, .inr ⟨rfl, (by first | rfl | (simp; done) | (simp; omega) | omega), fun i_ hi_ => .inl (cat_snoc (enc := cI) (xs := od) rfl i_ hi_)⟩, trivial⟩) (xe_again ((od ++ [t25]), (t25 + 1), (bs.set t25.toNat v_1)) rfl (show (0 ≤ (t25 + 1) ∧ (t25 + 1) ≤ (lists.length : Int)) ∧ ((od ++ [t25]) = ordN a lists band (t25 + 1).toNat) ∧ (bndOk a lists band (t25 + 1).toNat (bs.set t25.toNat v_1)) ∧ ((od ++ [t25]).length ≤ 18) ∧ True from ⟨(by omega), (by rw [hnx, hod]; first | (rw [ord_n hin]; done) | (rw [ord_y hin, hix]; done)), (by rw [hnx]; first | exact bnd_skip hbs hin | exact bnd_next hbs hi hlv), (by (first | assumption | (rw [List.length_append]; have q := ord_len a lists band t25.toNat; rw [← hod] at q; simp; omega))), trivial⟩) (by first | (show (((lists.length : Int) - (t25 + 1)).toNat : Nat) < ((lists.length : Int) - t25).toNat; omega) | (dsimp only; omega)))
     have hin : ¬ inL a lists band t25.toNat = true := by unfold inL; rw [h2]; decide
     refine x_r [(5, .call [(true, .any), (true, .any), (true, .any)] true (Bv false))] [0, 2, 9, 10, 11, 12, 23, 24, 25, 35] [10, 22, 709] [slFeat false a, I band, .arr 709, .ref 10 0, I t25, slFeat false (at_ lists t25.toNat), slLFeat false lists, I (lists.length : Int), I t25, Bv false] [some (.box [.arr 22]), some (.arr 1 bs.length (fI bs)), some (.arr 1 od.length (fI od))] [Con Try.prog 25 [I band, I (a.length : Int), I (((at_ lists t25.toNat).length) : Int)] true (Bv false) ∧ True] ⟨⟨(con_bool h2 (isBand_ok band (a.length : Int) (((at_ lists t25.toNat).length) : Int) (by omega) (by omega))), trivial⟩, trivial⟩ ?_
     refine xe_then ?_
     refine x_false rfl ?_
     refine x_skip ?_
     refine xe_block 1 ?_
     refine xe_then ?_
     refine x_r [] [0, 2, 9, 10, 23, 24, 25] [10, 22, 709] [slFeat false a, I band, .arr 709, .ref 10 0, slLFeat false lists, I (lists.length : Int), I (t25 + 1)] [some (.box [.arr 22]), some (.arr 1 bs.length (fI bs)), some (.arr 1 od.length (fI od))] [inR .i64 (t25 + 1)] ⟨(inR_i64 (by omega) (by omega)), trivial⟩ ?_
     exact xe_again (od, (t25 + 1), bs) rfl (show (0 ≤ (t25 + 1) ∧ (t25 + 1) ≤ (lists.length : Int)) ∧ (od = ordN a lists band (t25 + 1).toNat) ∧ (bndOk a lists band (t25 + 1).toNat bs) ∧ (od.length ≤ 18) ∧ True from ⟨(by omega), (by rw [hnx, hod]; first | (rw [ord_n hin]; done) | (rw [ord_y hin, hix]; done)), (by rw [hnx]; first | exact bnd_skip hbs hin | exact bnd_next hbs hi hlv), (by (first | assumption | (rw [List.length_append]; have q := ord_len a lists band t25.toNat; rw [← hod] at q; simp; omega))), trivial⟩) (by first | (show (((lists.length : Int) - (t25 + 1)).toNat : Nat) < ((lists.length : Int) - t25).toNat; omega) | (dsimp only; omega))
    have hie : t25.toNat = lists.length := by omega
    refine x_r [(0, .dec false)] [0, 2, 9, 10, 23, 24, 25, 26] [10, 22, 709] [slFeat false a, I band, .arr 709, .ref 10 0, slLFeat false lists, I (lists.length : Int), I t25, Bv false] [some (.box [.arr 22]), some (.arr 1 bs.length (fI bs)), some (.arr 1 od.length (fI od))] [¬ (t25 < (lists.length : Int))] ⟨h1, trivial⟩ ?_
    refine xe_then ?_
    refine x_seq ?_
    refine x_false rfl ?_
    refine x_exit ?_
    refine xe_exit_then ?_
    refine xe_loop_exit ?_
    refine xe_exit_same ?_
    refine xe_then ?_
    refine x_seq ?_
    refine x_weak [(7212, 709)] (T := [(0, slFeat false a), (2, I band), (9, .arr 7212), (10, .ref 10 0), (23, slLFeat false lists), (24, I (lists.length : Int)), (25, I t25), (26, Bv false)]) (O := [(10, .box [.arr 22]), (22, .arr 1 bs.length (fI bs)), (7212, .arr 1 od.length (fI od))]) rfl (⟨.inl rfl, .inl rfl, .inl rfl, .inl rfl, .inl rfl, .inl rfl, .inl rfl, .inl rfl, trivial⟩) (⟨.inl rfl, .inl rfl, .inl rfl, trivial⟩) ?_
    obtain ⟨data'_2, hx2_0, hc2⟩ := stBsort_ok od bs (by rw [hod, hie]; have q := ord_len a lists band lists.length; omega) (fun x hx => by rw [hod, hie] at hx; obtain ⟨j, q1, q2, q3⟩ := ord_mem.1 hx; have q4 := hbs.1; omega)
    have hbo : boOk a lists band data'_2 := by rw [hx2_0, hod, hie]; exact bo_ok (by rw [← hie]; exact hbs)
    refine x_r [(2, .lendT [(7212, .arr 1 od.length (fI od), .arr 1 data'_2.length (fI data'_2))] [] [(true, .any), (false, .fn 29 [.ptr false [slI false bs]])] true (.tup []))] [9] [7212] [.arr 7212] [some (.arr 1 data'_2.length (fI data'_2))] [CallOK Try.prog 28 [.arr 7212, .fn 29 [.ptr false [slI false bs]]] (lookO [(7212, .arr 1 od.length (fI od))]) true (.tup []) (lookO [(7212, .arr 1 data'_2.length (fI data'_2))]) ∧ allTag [(7212, .arr 1 data'_2.length (fI data'_2))] ∧ tagged true (.tup []) ∧ (29 = 29 ∧ ((false = true → true = true) ∧ AV.idsL [slI false bs] = [] ∧ ((false = true → true = true) ∧ 1 = 1 ∧ bs.length = bs.length ∧ ∀ i_, i_ < bs.length → (fI bs) i_ = (fI bs) i_ ∨ (AV.idsL ((fI bs) i_) = [] ∧ leL (fun _ => none) false ((fI bs) i_) ((fI bs) i_))) ∧ ([] : List AV) = []) ∧ ([] : List AV) = []) ∧ (((.arr 1 od.length (fI od) : Ob) = .arr 1 od.length (fI od) ∨ obLe noOb true (.arr 1 od.length (fI od)) (.arr 1 od.length (fI od))) ∧ taggedO false (.arr 1 od.length (fI od))) ∧ True] ⟨⟨hc2, ⟨(fun _ _ => tagcI true _), trivial⟩, (by simp [tagged, taggedL]), ⟨rfl, ⟨⟨(fun h => by cases h), rfl, ⟨⟨(fun h => by cases h), rfl, rfl, fun i _ => .inl rfl⟩, rfl⟩⟩, rfl⟩⟩, ⟨.inl rfl, fun _ _ => tagcI false _⟩, trivial⟩, trivial⟩ ?_
    refine xe_then ?_
    refine xR [] [6, 7] [7212] [.arr 7212, I 0] [some (.arr 1 data'_2.length (fI data'_2))] [] trivial ?_
    refine x_ret ?_
    refine xe_end (data'_2, 0) (show (boOk a lists band data'_2) ∧ (0 = 0) ∧ (True) from ⟨(by first | rfl | assumption), (by first | rfl | assumption), trivial⟩) (trivial) (.tup [.arr 7212, I 0]) (by kernel_rfl) (.inr ⟨⟨(fun _ => rfl), rfl, rfl, fun i _ => .inl rfl⟩, ⟨rfl, rfl⟩⟩) (fun _ => rfl) (fun _ => (by simp [tagged, taggedL, tagI]))
  obtain ⟨⟨v, c⟩, ⟨hh0, hh1, _⟩, hc⟩ := hh
  exact ⟨v, c, hh0, hh1, hc⟩


theorem take_succ_at {α : Type} [Inhabited α] {xs : List α} {i : Int} {y : α} (h0 : 0 ≤ i) (h : i.toNat < xs.length) (hy : y = at_ xs i.toNat) : xs.take (i + 1).toNat = xs.take i.toNat ++ [y] := by
  have e : (i + 1).toNat = i.toNat + 1 := by omega
  rw [e, List.take_succ_eq_append_getElem h, hy]
  simp [at_, h]

-- laws.a2Has
theorem a2Has_ok (list : List Int) (n : Int) (hl : list.length ≤ 4611686018427387904) : Con Try.prog 10 [slI false list, I n] true (Bv (decide (n ∈ list))) := by
  refine fn_ok (fn := Try.f10) (nt := 18) Try.func10 rfl rfl rfl rfl (by simp [taggedL, tagged, tagI]) fun B hB => ?_
  refine aw_lens (x := slI false list) 0 rfl (fun len_list => ?_)
  simp [LenOK, LenL, cI, fI, slI] at len_list
  refine aR [] [0, 1] [] [slI false list, I n] [] [] hB trivial ?_
  refine aw_seq ?_
  refine aR [] [0, 1, 5] [] [slI false list, I n, I 0] [] [] hB trivial ?_
  refine aw_block ?_
  refine aw_loop (fun gn gσ => ∃ (i : Int), gn = ((list.length : Int) - i).toNat ∧ (0 ≤ i ∧ i ≤ (list.length : Int)) ∧ (∀ j : Nat, (j : Int) < i → at_ list j ≠ n) ∧ gσ = mkS [(0, slI false list), (1, I n), (5, I i)] []) (((list.length : Int) - 0).toNat) ⟨0, rfl, (by omega), (by intro j hj; omega), rfl⟩ (fun gn gσ hI => ?_)
  obtain ⟨i, rfl, hi0, hn0, rfl⟩ := hI
  refine aw_seq ?_
  refine aw_seq ?_
  by_cases h1 : i < (list.length : Int)
  ·have hi : i.toNat < list.length := by omega
   refine aw_r [(3, .dec true)] [0, 1, 5, 9] [] [slI false list, I n, I i, Bv true] [] [i < (list.length : Int)] hB ⟨h1, trivial⟩ ?_
   refine ae_then ?_
   refine aw_true rfl ?_
   refine aw_skip ?_
   refine ae_then ?_
   refine aw_seq ?_
   refine aw_block ?_
   refine aw_seq ?_
   by_cases h2 : (at_ list i.toNat) = n
   ·have hyes : n ∈ list := h2 ▸ at_mem hi
    refine aw_r [(5, .dec true)] [0, 1, 5, 17] [] [slI false list, I n, I i, Bv true] [] [(0 : Int) ≤ i ∧ i < (list.length : Int), (at_ list i.toNat) = n] hB ⟨⟨(by omega), (by omega)⟩, h2, trivial⟩ ?_
    refine ae_then ?_
    refine aw_true rfl ?_
    refine aR [] [4] [] [Bv true] [] [] hB trivial ?_
    refine aw_ret ?_
    refine ae_ret_block (ae_ret_then (ae_ret_then (ae_ret_block (ae_ret_then ?_))))
    refine ae_ret hB (Bv true) (by kernel_rfl) (.inl (by refine congrArg Bv ?_; simp [*])) rfl (fun _ => trivial)
   refine aw_r [(5, .dec false)] [0, 1, 5, 17] [] [slI false list, I n, I i, Bv false] [] [(0 : Int) ≤ i ∧ i < (list.length : Int), ¬ ((at_ list i.toNat) = n)] hB ⟨⟨(by omega), (by omega)⟩, h2, trivial⟩ ?_
   refine ae_then ?_
   refine aw_false rfl ?_
   refine aw_skip ?_
   refine ae_block 1 ?_
   refine ae_then ?_
   refine aw_r [] [0, 1, 5] [] [slI false list, I n, I (i + 1)] [] [inR .i64 (i + 1)] hB ⟨(inR_i64 (by omega) (by omega)), trivial⟩ ?_
   exact ae_again _ (by omega) ⟨(i + 1), rfl, (by omega), (by intro j hj; by_cases e : (j : Int) = i; (have e2 : j = i.toNat := (by omega); rw [e2]; assumption); exact hn0 j (by omega)), rfl⟩
  have hno : ¬ n ∈ list := fun hm => by obtain ⟨j, hj, e⟩ := List.getElem_of_mem hm; exact hn0 j (by omega) (by rw [at_eq hj]; exact e)
  refine aw_r [(3, .dec false)] [0, 1, 5, 9] [] [slI false list, I n, I i, Bv false] [] [¬ (i < (list.length : Int))] hB ⟨h1, trivial⟩ ?_
  refine ae_then ?_
  refine aw_false rfl ?_
  refine aw_exit ?_
  refine ae_exit_then ?_
  refine ae_exit_then ?_
  refine ae_exit_same ?_
  refine ae_then ?_
  refine aR [] [4] [] [Bv false] [] [] hB trivial ?_
  refine aw_ret ?_
  refine ae_ret hB (Bv false) (by kernel_rfl) (.inl (by refine congrArg Bv ?_; simp [*])) rfl (fun _ => trivial)


-- spec.l00In
theorem l00In_ok (n : Int) (low : Int) (high : Int) : Con Try.prog 52 [I n, I low, I high] true (Bv (inB n low high)) := by
  refine fn_ok (fn := Try.f52) (nt := 15) Try.func52 rfl rfl rfl rfl (by simp [taggedL, tagged]) fun B hB => ?_
  refine aR [] [0, 1, 2] [] [I n, I low, I high] [] [] hB trivial ?_
  refine aw_seq ?_
  by_cases h1 : low ≤ n
  ·refine aw_r [(2, .dec true)] [6] [] [Bv (decide (n ≤ high))] [] [low ≤ n] hB ⟨h1, trivial⟩ ?_
   refine ae_then ?_
   refine aw_ret ?_
   refine ae_ret hB (Bv (decide (n ≤ high))) (by kernel_rfl) (.inl (by first | rfl | (refine congrArg Bv ?_; simp [inB, *]; done) | (refine congrArg Bv ?_; simp [inB, *]; omega) | (refine congrArg Bv ?_; simp_all [inB]; done) | (refine congrArg Bv ?_; simp_all [inB]; omega))) rfl (fun _ => trivial)
  refine aw_r [(2, .dec false)] [6] [] [Bv false] [] [¬ (low ≤ n)] hB ⟨h1, trivial⟩ ?_
  refine ae_then ?_
  refine aw_ret ?_
  refine ae_ret hB (Bv false) (by kernel_rfl) (.inl (by first | rfl | (refine congrArg Bv ?_; simp [inB, *]; done) | (refine congrArg Bv ?_; simp [inB, *]; omega) | (refine congrArg Bv ?_; simp_all [inB]; done) | (refine congrArg Bv ?_; simp_all [inB]; omega))) rfl (fun _ => trivial)


-- spec.l09Feat
theorem l09Feat_ok (f : Feat) : Con Try.prog 76 [agFeat f] true (Bv (okF f)) := by
  refine fn_ok (fn := Try.f76) (nt := 16) Try.func76 rfl rfl rfl rfl (by simp [taggedL, tagged]) fun B hB => ?_
  refine aR [(0, .new 1)] [1] [1] [.ref 1 0] [some (bxFeat f)] [] hB trivial ?_
  refine aw_seq ?_
  rcases Bool.eq_false_or_eq_true (inB f.X 0 255) with h1 | h1
  ·rcases Bool.eq_false_or_eq_true (inB f.Y 0 255) with h2 | h2
   ·refine aw_r [(2, .call [(true, .any), (true, .any), (true, .any)] true (Bv true)), (6, .call [(true, .any), (true, .any), (true, .any)] true (Bv true)), (11, .call [(true, .any), (true, .any), (true, .any)] true (Bv (inB f.D 0 7)))] [2] [] [Bv (inB f.D 0 7)] [] [Con Try.prog 52 [I f.X, I 0, I 255] true (Bv true) ∧ True, Con Try.prog 52 [I f.Y, I 0, I 255] true (Bv true) ∧ True, Con Try.prog 52 [I f.D, I 0, I 7] true (Bv (inB f.D 0 7)) ∧ True] hB ⟨⟨(con_bool h1 (l00In_ok f.X 0 255)), trivial⟩, ⟨(con_bool h2 (l00In_ok f.Y 0 255)), trivial⟩, ⟨(l00In_ok f.D 0 7), trivial⟩, trivial⟩ ?_
    refine ae_then ?_
    refine aw_ret ?_
    refine ae_ret hB (Bv (inB f.D 0 7)) (by kernel_rfl) (.inl (by first | rfl | (refine congrArg Bv ?_; simp [okF, *]; done) | (refine congrArg Bv ?_; simp [okF, *]; omega) | (refine congrArg Bv ?_; simp_all [okF]; done) | (refine congrArg Bv ?_; simp_all [okF]; omega))) rfl (fun _ => trivial)
   refine aw_r [(2, .call [(true, .any), (true, .any), (true, .any)] true (Bv true)), (6, .call [(true, .any), (true, .any), (true, .any)] true (Bv false))] [2] [] [Bv false] [] [Con Try.prog 52 [I f.X, I 0, I 255] true (Bv true) ∧ True, Con Try.prog 52 [I f.Y, I 0, I 255] true (Bv false) ∧ True] hB ⟨⟨(con_bool h1 (l00In_ok f.X 0 255)), trivial⟩, ⟨(con_bool h2 (l00In_ok f.Y 0 255)), trivial⟩, trivial⟩ ?_
   refine ae_then ?_
   refine aw_ret ?_
   refine ae_ret hB (Bv false) (by kernel_rfl) (.inl (by first | rfl | (refine congrArg Bv ?_; simp [okF, *]; done) | (refine congrArg Bv ?_; simp [okF, *]; omega) | (refine congrArg Bv ?_; simp_all [okF]; done) | (refine congrArg Bv ?_; simp_all [okF]; omega))) rfl (fun _ => trivial)
  refine aw_r [(2, .call [(true, .any), (true, .any), (true, .any)] true (Bv false))] [2] [] [Bv false] [] [Con Try.prog 52 [I f.X, I 0, I 255] true (Bv false) ∧ True] hB ⟨⟨(con_bool h1 (l00In_ok f.X 0 255)), trivial⟩, trivial⟩ ?_
  refine ae_then ?_
  refine aw_ret ?_
  refine ae_ret hB (Bv false) (by kernel_rfl) (.inl (by first | rfl | (refine congrArg Bv ?_; simp [okF, *]; done) | (refine congrArg Bv ?_; simp [okF, *]; omega) | (refine congrArg Bv ?_; simp_all [okF]; done) | (refine congrArg Bv ?_; simp_all [okF]; omega))) rfl (fun _ => trivial)


-- spec.l09Ok
theorem l09Ok_ok (list : List Feat) : Con Try.prog 51 [slFeat false list] true (Bv (okFeats list 72)) := by
  refine fn_ok (fn := Try.f51) (nt := 19) Try.func51 rfl rfl rfl rfl (by simp [taggedL, tagged, tagFeat]) fun B hB => ?_
  refine aw_lens (x := slFeat false list) 0 rfl (fun len_list => ?_)
  simp [LenOK, LenL, cFeat, fFeat, slFeat] at len_list
  refine aR [] [0] [] [slFeat false list] [] [] hB trivial ?_
  refine aw_seq ?_
  refine aR [] [0, 3] [] [slFeat false list, I 0] [] [] hB trivial ?_
  refine aw_block ?_
  refine aw_loop (fun gn gσ => ∃ (i : Int), gn = ((list.length : Int) - i).toNat ∧ (0 ≤ i ∧ i ≤ (list.length : Int)) ∧ (∀ j : Nat, (j : Int) < i → okF (at_ list j) = true) ∧ gσ = mkS [(0, slFeat false list), (3, I i)] []) (((list.length : Int) - 0).toNat) ⟨0, rfl, (by omega), (by intro j hj; omega), rfl⟩ (fun gn gσ hI => ?_)
  obtain ⟨i, rfl, hi0, hall0, rfl⟩ := hI
  refine aw_seq ?_
  refine aw_seq ?_
  by_cases h1 : i < (list.length : Int)
  ·have hi : i.toNat < list.length := by omega
   refine aw_r [(3, .dec true)] [0, 3, 7] [] [slFeat false list, I i, Bv true] [] [i < (list.length : Int)] hB ⟨h1, trivial⟩ ?_
   refine ae_then ?_
   refine aw_true rfl ?_
   refine aw_skip ?_
   refine ae_then ?_
   refine aw_seq ?_
   refine aw_block ?_
   refine aw_seq ?_
   rcases Bool.eq_false_or_eq_true (okF (at_ list i.toNat)) with h2 | h2
   ·refine aw_r [(4, .call [(true, .any)] true (Bv true))] [0, 3, 15] [] [slFeat false list, I i, Bv false] [] [(0 : Int) ≤ i ∧ i < (list.length : Int), Con Try.prog 76 [agFeat (at_ list i.toNat)] true (Bv true) ∧ True] hB ⟨⟨(by omega), (by omega)⟩, ⟨(con_bool h2 (l09Feat_ok (at_ list i.toNat))), trivial⟩, trivial⟩ ?_
    refine ae_then ?_
    refine aw_false rfl ?_
    refine aw_skip ?_
    refine ae_block 1 ?_
    refine ae_then ?_
    refine aw_r [] [0, 3] [] [slFeat false list, I (i + 1)] [] [inR .i64 (i + 1)] hB ⟨(inR_i64 (by omega) (by omega)), trivial⟩ ?_
    exact ae_again _ (by omega) ⟨(i + 1), rfl, (by omega), (by intro j hj; by_cases ej : j = i.toNat; (subst ej; first | assumption | exact hok); exact hall0 j (by omega)), rfl⟩
   have hall : allN list.length (fun j => okF (at_ list j)) = false := allN_not hi h2
   refine aw_r [(4, .call [(true, .any)] true (Bv false))] [0, 3, 15] [] [slFeat false list, I i, Bv true] [] [(0 : Int) ≤ i ∧ i < (list.length : Int), Con Try.prog 76 [agFeat (at_ list i.toNat)] true (Bv false) ∧ True] hB ⟨⟨(by omega), (by omega)⟩, ⟨(con_bool h2 (l09Feat_ok (at_ list i.toNat))), trivial⟩, trivial⟩ ?_
   refine ae_then ?_
   refine aw_true rfl ?_
   refine aR [] [2] [] [Bv false] [] [] hB trivial ?_
   refine aw_ret ?_
   refine ae_ret_block (ae_ret_then (ae_ret_then (ae_ret_block (ae_ret_then ?_))))
   refine ae_ret hB (Bv false) (by kernel_rfl) (.inl (by first | rfl | (refine congrArg Bv ?_; simp [okFeats, inB, *]; done) | (refine congrArg Bv ?_; simp [okFeats, inB, *]; omega) | (refine congrArg Bv ?_; simp_all [okFeats, inB]; done) | (refine congrArg Bv ?_; simp_all [okFeats, inB]; omega))) rfl (fun _ => trivial)
  have hall : allN list.length (fun j => okF (at_ list j)) = true := allN_at (fun j hj => hall0 j (by omega))
  refine aw_r [(3, .dec false)] [0, 3, 7] [] [slFeat false list, I i, Bv false] [] [¬ (i < (list.length : Int))] hB ⟨h1, trivial⟩ ?_
  refine ae_then ?_
  refine aw_false rfl ?_
  refine aw_exit ?_
  refine ae_exit_then ?_
  refine ae_exit_then ?_
  refine ae_exit_same ?_
  refine ae_then ?_
  refine aR [(2, .call [(true, .any), (true, .any), (true, .any)] true (Bv (inB (list.length : Int) 1 72)))] [2] [] [Bv (inB (list.length : Int) 1 72)] [] [Con Try.prog 52 [I (list.length : Int), I 1, I 72] true (Bv (inB (list.length : Int) 1 72)) ∧ True] hB ⟨⟨(l00In_ok (list.length : Int) 1 72), trivial⟩, trivial⟩ ?_
  refine aw_ret ?_
  refine ae_ret hB (Bv (inB (list.length : Int) 1 72)) (by kernel_rfl) (.inl (by first | rfl | (refine congrArg Bv ?_; simp [okFeats, inB, *]; done) | (refine congrArg Bv ?_; simp [okFeats, inB, *]; omega) | (refine congrArg Bv ?_; simp_all [okFeats, inB]; done) | (refine congrArg Bv ?_; simp_all [okFeats, inB]; omega))) rfl (fun _ => trivial)


-- spec.l09Size
theorem l09Size_ok (n : Int) (hn : -9223372036854775807 ≤ n ∧ n ≤ 9223372036854775807) : Con Try.prog 53 [I n] true (I (n.natAbs : Int)) := by
  refine fn_ok (fn := Try.f53) (nt := 8) Try.func53 rfl rfl rfl rfl (by simp [taggedL, tagged]) fun B hB => ?_
  refine aR [] [0] [] [I n] [] [] hB trivial ?_
  refine aw_seq ?_
  refine aw_seq ?_
  by_cases h1 : n < 0
  ·refine aw_r [(1, .dec true)] [0, 4] [] [I n, Bv true] [] [n < 0] hB ⟨h1, trivial⟩ ?_
   refine ae_then ?_
   refine aw_true rfl ?_
   refine aR [] [2] [] [I (-n)] [] [inR .i64 (-n)] hB ⟨(inR_i64 (by omega) (by omega)), trivial⟩ ?_
   refine aw_ret ?_
   refine ae_ret_then ?_
   refine ae_ret hB (I (-n)) (by kernel_rfl) (.inl (by refine congrArg I ?_; omega)) rfl (fun _ => trivial)
  refine aw_r [(1, .dec false)] [0, 4] [] [I n, Bv false] [] [¬ (n < 0)] hB ⟨h1, trivial⟩ ?_
  refine ae_then ?_
  refine aw_false rfl ?_
  refine aw_skip ?_
  refine ae_then ?_
  refine aR [] [2] [] [I n] [] [] hB trivial ?_
  refine aw_ret ?_
  refine ae_ret hB (I n) (by kernel_rfl) (.inl (by refine congrArg I ?_; omega)) rfl (fun _ => trivial)


-- spec.l09Code
theorem l09Code_ok (a : List Feat) (b : List Feat) (band : Int) : Con Try.prog 31 [slFeat false a, slFeat false b, I band] true (I (elCode a b band)) := by
  refine fn_ok (fn := Try.f31) (nt := 28) Try.func31 rfl rfl rfl rfl (by simp [taggedL, tagged, tagFeat]) fun B hB => ?_
  refine aw_lens (x := slFeat false a) 0 rfl (fun len_a => ?_)
  simp [LenOK, LenL, cFeat, fFeat, slFeat] at len_a
  refine aw_lens (x := slFeat false b) 1 rfl (fun len_b => ?_)
  simp [LenOK, LenL, cFeat, fFeat, slFeat] at len_b
  refine aR [] [0, 1, 2] [] [slFeat false a, slFeat false b, I band] [] [] hB trivial ?_
  refine aw_seq ?_
  refine aw_seq ?_
  rcases Bool.eq_false_or_eq_true (okFeats a 72) with h1 | h1
  ·have hn1 := okFeats_n h1
   rcases Bool.eq_false_or_eq_true (okFeats b 72) with h2 | h2
   ·have hn1 := okFeats_n h2
    refine aw_r [(1, .call [(true, .any)] true (Bv true)), (5, .call [(true, .any)] true (Bv true))] [0, 1, 2, 14] [] [slFeat false a, slFeat false b, I band, Bv false] [] [Con Try.prog 51 [slFeat false a] true (Bv true) ∧ True, Con Try.prog 51 [slFeat false b] true (Bv true) ∧ True] hB ⟨⟨(con_bool h1 (l09Ok_ok a)), trivial⟩, ⟨(con_bool h2 (l09Ok_ok b)), trivial⟩, trivial⟩ ?_
    refine ae_then ?_
    refine aw_false rfl ?_
    refine aw_skip ?_
    refine ae_then ?_
    refine aw_seq ?_
    refine aw_seq ?_
    rcases Bool.eq_false_or_eq_true (inB band 0 72) with h3 | h3
    ·by_cases h4 : band < (((a.length : Int) - (b.length : Int)).natAbs : Int)
     ·refine aw_r [(1, .call [(true, .any), (true, .any), (true, .any)] true (Bv true)), (9, .call [(true, .any)] true (I (((a.length : Int) - (b.length : Int)).natAbs : Int))), (11, .dec true)] [27] [] [Bv true] [] [Con Try.prog 52 [I band, I 0, I 72] true (Bv true) ∧ True, inR .i64 ((a.length : Int) - (b.length : Int)), Con Try.prog 53 [I ((a.length : Int) - (b.length : Int))] true (I (((a.length : Int) - (b.length : Int)).natAbs : Int)) ∧ True, band < (((a.length : Int) - (b.length : Int)).natAbs : Int)] hB ⟨⟨(con_bool h3 (l00In_ok band 0 72)), trivial⟩, (inR_i64 (by omega) (by omega)), ⟨(l09Size_ok ((a.length : Int) - (b.length : Int)) (by omega)), trivial⟩, h4, trivial⟩ ?_
      refine ae_then ?_
      refine aw_true rfl ?_
      refine aR [] [6] [] [I 2] [] [] hB trivial ?_
      refine aw_ret ?_
      refine ae_ret_then ?_
      refine ae_ret hB (I 2) (by kernel_rfl) (.inl (by refine congrArg I ?_; unfold elCode; first | (simp [*]; done) | (simp [inB, *] at *; simp [*]; done) | (simp [inB, *] at *; omega))) rfl (fun _ => trivial)
     refine aw_r [(1, .call [(true, .any), (true, .any), (true, .any)] true (Bv true)), (9, .call [(true, .any)] true (I (((a.length : Int) - (b.length : Int)).natAbs : Int))), (11, .dec false)] [27] [] [Bv false] [] [Con Try.prog 52 [I band, I 0, I 72] true (Bv true) ∧ True, inR .i64 ((a.length : Int) - (b.length : Int)), Con Try.prog 53 [I ((a.length : Int) - (b.length : Int))] true (I (((a.length : Int) - (b.length : Int)).natAbs : Int)) ∧ True, ¬ (band < (((a.length : Int) - (b.length : Int)).natAbs : Int))] hB ⟨⟨(con_bool h3 (l00In_ok band 0 72)), trivial⟩, (inR_i64 (by omega) (by omega)), ⟨(l09Size_ok ((a.length : Int) - (b.length : Int)) (by omega)), trivial⟩, h4, trivial⟩ ?_
     refine ae_then ?_
     refine aw_false rfl ?_
     refine aw_skip ?_
     refine ae_then ?_
     refine aR [] [6] [] [I 0] [] [] hB trivial ?_
     refine aw_ret ?_
     refine ae_ret hB (I 0) (by kernel_rfl) (.inl (by refine congrArg I ?_; unfold elCode; first | (simp [*]; done) | (simp [inB, *] at *; simp [*]; done) | (simp [inB, *] at *; omega))) rfl (fun _ => trivial)
    refine aw_r [(1, .call [(true, .any), (true, .any), (true, .any)] true (Bv false))] [27] [] [Bv true] [] [Con Try.prog 52 [I band, I 0, I 72] true (Bv false) ∧ True] hB ⟨⟨(con_bool h3 (l00In_ok band 0 72)), trivial⟩, trivial⟩ ?_
    refine ae_then ?_
    refine aw_true rfl ?_
    refine aR [] [6] [] [I 2] [] [] hB trivial ?_
    refine aw_ret ?_
    refine ae_ret_then ?_
    refine ae_ret hB (I 2) (by kernel_rfl) (.inl (by refine congrArg I ?_; unfold elCode; first | (simp [*]; done) | (simp [inB, *] at *; simp [*]; done) | (simp [inB, *] at *; omega))) rfl (fun _ => trivial)
   refine aw_r [(1, .call [(true, .any)] true (Bv true)), (5, .call [(true, .any)] true (Bv false))] [0, 1, 2, 14] [] [slFeat false a, slFeat false b, I band, Bv true] [] [Con Try.prog 51 [slFeat false a] true (Bv true) ∧ True, Con Try.prog 51 [slFeat false b] true (Bv false) ∧ True] hB ⟨⟨(con_bool h1 (l09Ok_ok a)), trivial⟩, ⟨(con_bool h2 (l09Ok_ok b)), trivial⟩, trivial⟩ ?_
   refine ae_then ?_
   refine aw_true rfl ?_
   refine aR [] [6] [] [I 1] [] [] hB trivial ?_
   refine aw_ret ?_
   refine ae_ret_then ?_
   refine ae_ret hB (I 1) (by kernel_rfl) (.inl (by refine congrArg I ?_; unfold elCode; first | (simp [*]; done) | (simp [inB, *] at *; simp [*]; done) | (simp [inB, *] at *; omega))) rfl (fun _ => trivial)
  refine aw_r [(1, .call [(true, .any)] true (Bv false))] [0, 1, 2, 14] [] [slFeat false a, slFeat false b, I band, Bv true] [] [Con Try.prog 51 [slFeat false a] true (Bv false) ∧ True] hB ⟨⟨(con_bool h1 (l09Ok_ok a)), trivial⟩, trivial⟩ ?_
  refine ae_then ?_
  refine aw_true rfl ?_
  refine aR [] [6] [] [I 1] [] [] hB trivial ?_
  refine aw_ret ?_
  refine ae_ret_then ?_
  refine ae_ret hB (I 1) (by kernel_rfl) (.inl (by refine congrArg I ?_; unfold elCode; first | (simp [*]; done) | (simp [inB, *] at *; simp [*]; done) | (simp [inB, *] at *; omega))) rfl (fun _ => trivial)


-- spec.l10Range
set_option maxHeartbeats 4000000 in
theorem l10Range_ok (b : List Feat) (fr_ : Int) (to_ : Int) (vertical : Bool) (okb : okFeats b 72 = true) (h1 : max 0 fr_ < (b.length : Int) ∧ max 0 fr_ ≤ to_ ∧ to_ ≤ 1000 ∧ -1000 ≤ fr_) : ∃ (lo : Int) (hi : Int), (lo = mnR (gV b vertical) (max 0 fr_).toNat (min (to_ + 1) (b.length : Int) - max 0 fr_ - 1).toNat) ∧ (hi = mxR (gV b vertical) (max 0 fr_).toNat (min (to_ + 1) (b.length : Int) - max 0 fr_ - 1).toNat) ∧ Con Try.prog 77 [slFeat false b, I fr_, I to_, Bv vertical] true (.tup [I lo, I hi]) := by
  have hbn := okFeats_n okb
  have hh : ∃ r : Int × Int, ((r.1 = mnR (gV b vertical) (max 0 fr_).toNat (min (to_ + 1) (b.length : Int) - max 0 fr_ - 1).toNat) ∧ (r.2 = mxR (gV b vertical) (max 0 fr_).toNat (min (to_ + 1) (b.length : Int) - max 0 fr_ - 1).toNat) ∧ (True)) ∧ CallOK Try.prog 77 [slFeat false b, I fr_, I to_, Bv vertical] (lookO []) true (.tup [I r.1, I r.2]) (lookO []) := by
    refine fn_okX (Φ := fun r : Int × Int => (r.1 = mnR (gV b vertical) (max 0 fr_).toNat (min (to_ + 1) (b.length : Int) - max 0 fr_ - 1).toNat) ∧ (r.2 = mxR (gV b vertical) (max 0 fr_).toNat (min (to_ + 1) (b.length : Int) - max 0 fr_ - 1).toNat) ∧ (True)) [] (fun r => []) (fn := Try.f77) (nt := 46) Try.func77 rfl rfl (args := [slFeat false b, I fr_, I to_, Bv vertical]) rfl (allcons (.inl ⟨rfl, tagFeat false _⟩) (allcons (.inl ⟨rfl, trivial⟩) (allcons (.inl ⟨rfl, trivial⟩) (allcons (.inl ⟨rfl, trivial⟩) allnil)))) (res := fun r => .tup [I r.1, I r.2]) ?_
    refine xR [] [0, 1, 2, 3] [] [slFeat false b, I fr_, I to_, Bv vertical] [] [] trivial ?_
    refine xR [] [0, 1, 2, 3, 10] [] [slFeat false b, I fr_, I to_, Bv vertical, I 255] [] [] trivial ?_
    refine xR [] [0, 1, 2, 3, 10, 11] [] [slFeat false b, I fr_, I to_, Bv vertical, I 255, I 0] [] [] trivial ?_
    refine x_seq ?_
    refine xR [(1, .call [(true, .any), (true, .any)] true (I (max 0 fr_)))] [0, 2, 3, 10, 11, 12] [] [slFeat false b, I to_, Bv vertical, I 255, I 0, I (max 0 fr_)] [] [Con Try.prog 41 [I 0, I fr_] true (I (max 0 fr_)) ∧ True] ⟨⟨(l00Max_ok 0 fr_), trivial⟩, trivial⟩ ?_
    refine x_block ?_
    refine x_loop (X := Int × Int × Int) (fun x => mkS [(0, slFeat false b), (2, I to_), (3, Bv vertical), (10, I x.1), (11, I x.2.1), (12, I x.2.2)] []) (fun x => ((0 ≤ x.2.2 ∧ max 0 fr_ ≤ x.2.2) ∧ x.2.2 ≤ (b.length : Int) ∧ x.2.2 ≤ to_ + 1) ∧ (x.1 = rgL b vertical (max 0 fr_).toNat (x.2.2 - max 0 fr_).toNat) ∧ (x.2.1 = rgH b vertical (max 0 fr_).toNat (x.2.2 - max 0 fr_).toNat) ∧ True) (fun x => ((b.length : Int) - x.2.2).toNat) (255, 0, (max 0 fr_)) rfl (show ((0 ≤ (max 0 fr_) ∧ max 0 fr_ ≤ (max 0 fr_)) ∧ (max 0 fr_) ≤ (b.length : Int) ∧ (max 0 fr_) ≤ to_ + 1) ∧ ((255 : Int) = rgL b vertical (max 0 fr_).toNat ((max 0 fr_) - max 0 fr_).toNat) ∧ ((0 : Int) = rgH b vertical (max 0 fr_).toNat ((max 0 fr_) - max 0 fr_).toNat) ∧ True from ⟨(by omega), (by (rw [show (max 0 fr_ - max 0 fr_).toNat = 0 from by omega]; rfl)), (by (rw [show (max 0 fr_ - max 0 fr_).toNat = 0 from by omega]; rfl)), trivial⟩) (fun x hI => ?_)
    obtain ⟨low, high, j⟩ := x
    obtain ⟨hj0, hlo, hhi, _⟩ : ((0 ≤ j ∧ max 0 fr_ ≤ j) ∧ j ≤ (b.length : Int) ∧ j ≤ to_ + 1) ∧ (low = rgL b vertical (max 0 fr_).toNat (j - max 0 fr_).toNat) ∧ (high = rgH b vertical (max 0 fr_).toNat (j - max 0 fr_).toNat) ∧ True := hI
    show XW _ _ _ _ (mkS [(0, slFeat false b), (2, I to_), (3, Bv vertical), (10, I low), (11, I high), (12, I j)] []) _ _
    refine x_seq ?_
    refine x_seq ?_
    by_cases h1 : j ≤ to_
    ·by_cases h2 : j < (b.length : Int)
     ·have hj : j.toNat < b.length := by omega
      have hgv := gV_bd okb vertical hj
      have hpj : (max 0 fr_).toNat + (j - max 0 fr_).toNat = j.toNat := by omega
      refine x_r [(2, .dec true), (7, .dec true)] [0, 2, 3, 10, 11, 12, 24] [] [slFeat false b, I to_, Bv vertical, I low, I high, I j, Bv true] [] [j ≤ to_, j < (b.length : Int)] ⟨h1, h2, trivial⟩ ?_
      refine xe_then ?_
      refine x_true rfl ?_
      refine x_skip ?_
      refine xe_then ?_
      refine x_seq ?_
      refine x_block ?_
      refine xR [] [0, 2, 3, 10, 11, 12, 13] [] [slFeat false b, I to_, Bv vertical, I low, I high, I j, I ((at_ b j.toNat).X)] [] [(0 : Int) ≤ j ∧ j < (b.length : Int)] ⟨⟨(by omega), (by omega)⟩, trivial⟩ ?_
      refine x_seq ?_
      refine xR [] [0, 2, 3, 10, 11, 12, 13, 32] [] [slFeat false b, I to_, Bv vertical, I low, I high, I j, I ((at_ b j.toNat).X), Bv vertical] [] [] trivial ?_
      rcases Bool.eq_false_or_eq_true vertical with h3 | h3
      ·refine x_true (congrArg Bv h3) ?_
       refine x_r [] [0, 2, 3, 10, 11, 12, 13] [] [slFeat false b, I to_, Bv vertical, I low, I high, I j, I ((at_ b j.toNat).Y)] [] [(0 : Int) ≤ j ∧ j < (b.length : Int)] ⟨⟨(by omega), (by omega)⟩, trivial⟩ ?_
       refine xe_then ?_
       refine xR [(2, .call [(true, .any), (true, .any)] true (I (min low ((at_ b j.toNat).Y))))] [0, 2, 3, 10, 11, 12, 13] [] [slFeat false b, I to_, Bv vertical, I (min low ((at_ b j.toNat).Y)), I high, I j, I ((at_ b j.toNat).Y)] [] [Con Try.prog 42 [I low, I ((at_ b j.toNat).Y)] true (I (min low ((at_ b j.toNat).Y))) ∧ True] ⟨⟨(l00Min_ok low ((at_ b j.toNat).Y)), trivial⟩, trivial⟩ ?_
       refine x_r [(2, .call [(true, .any), (true, .any)] true (I (max high ((at_ b j.toNat).Y))))] [0, 2, 3, 10, 11, 12] [] [slFeat false b, I to_, Bv vertical, I (min low ((at_ b j.toNat).Y)), I (max high ((at_ b j.toNat).Y)), I j] [] [Con Try.prog 41 [I high, I ((at_ b j.toNat).Y)] true (I (max high ((at_ b j.toNat).Y))) ∧ True] ⟨⟨(l00Max_ok high ((at_ b j.toNat).Y)), trivial⟩, trivial⟩ ?_
       refine xe_block 1 ?_
       refine xe_then ?_
       refine x_r [] [0, 2, 3, 10, 11, 12] [] [slFeat false b, I to_, Bv vertical, I (min low ((at_ b j.toNat).Y)), I (max high ((at_ b j.toNat).Y)), I (j + 1)] [] [inR .i64 (j + 1)] ⟨(inR_i64 (by omega) (by omega)), trivial⟩ ?_
       exact xe_again ((min low ((at_ b j.toNat).Y)), (max high ((at_ b j.toNat).Y)), (j + 1)) rfl (show ((0 ≤ (j + 1) ∧ max 0 fr_ ≤ (j + 1)) ∧ (j + 1) ≤ (b.length : Int) ∧ (j + 1) ≤ to_ + 1) ∧ ((min low ((at_ b j.toNat).Y)) = rgL b vertical (max 0 fr_).toNat ((j + 1) - max 0 fr_).toNat) ∧ ((max high ((at_ b j.toNat).Y)) = rgH b vertical (max 0 fr_).toNat ((j + 1) - max 0 fr_).toNat) ∧ True from ⟨(by omega), (by (rw [show (j + 1 - max 0 fr_).toNat = (j - max 0 fr_).toNat + 1 from by omega]; rw [hlo]; exact (rg_next okb (by omega) (by rw [hpj]; unfold gV; clear hlo hhi; cases vertical <;> first | rfl | contradiction)).1)), (by (rw [show (j + 1 - max 0 fr_).toNat = (j - max 0 fr_).toNat + 1 from by omega]; rw [hhi]; exact (rg_next okb (by omega) (by rw [hpj]; unfold gV; clear hlo hhi; cases vertical <;> first | rfl | contradiction)).2)), trivial⟩) (by first | (show (((b.length : Int) - (j + 1)).toNat : Nat) < ((b.length : Int) - j).toNat; omega) | (dsimp only; omega))
      refine x_false (congrArg Bv h3) ?_
      refine x_skip ?_
      refine xe_then ?_
      refine xR [(2, .call [(true, .any), (true, .any)] true (I (min low ((at_ b j.toNat).X))))] [0, 2, 3, 10, 11, 12, 13] [] [slFeat false b, I to_, Bv vertical, I (min low ((at_ b j.toNat).X)), I high, I j, I ((at_ b j.toNat).X)] [] [Con Try.prog 42 [I low, I ((at_ b j.toNat).X)] true (I (min low ((at_ b j.toNat).X))) ∧ True] ⟨⟨(l00Min_ok low ((at_ b j.toNat).X)), trivial⟩, trivial⟩ ?_
      refine x_r [(2, .call [(true, .any), (true, .any)] true (I (max high ((at_ b j.toNat).X))))] [0, 2, 3, 10, 11, 12] [] [slFeat false b, I to_, Bv vertical, I (min low ((at_ b j.toNat).X)), I (max high ((at_ b j.toNat).X)), I j] [] [Con Try.prog 41 [I high, I ((at_ b j.toNat).X)] true (I (max high ((at_ b j.toNat).X))) ∧ True] ⟨⟨(l00Max_ok high ((at_ b j.toNat).X)), trivial⟩, trivial⟩ ?_
      refine xe_block 1 ?_
      refine xe_then ?_
      refine x_r [] [0, 2, 3, 10, 11, 12] [] [slFeat false b, I to_, Bv vertical, I (min low ((at_ b j.toNat).X)), I (max high ((at_ b j.toNat).X)), I (j + 1)] [] [inR .i64 (j + 1)] ⟨(inR_i64 (by omega) (by omega)), trivial⟩ ?_
      exact xe_again ((min low ((at_ b j.toNat).X)), (max high ((at_ b j.toNat).X)), (j + 1)) rfl (show ((0 ≤ (j + 1) ∧ max 0 fr_ ≤ (j + 1)) ∧ (j + 1) ≤ (b.length : Int) ∧ (j + 1) ≤ to_ + 1) ∧ ((min low ((at_ b j.toNat).X)) = rgL b vertical (max 0 fr_).toNat ((j + 1) - max 0 fr_).toNat) ∧ ((max high ((at_ b j.toNat).X)) = rgH b vertical (max 0 fr_).toNat ((j + 1) - max 0 fr_).toNat) ∧ True from ⟨(by omega), (by (rw [show (j + 1 - max 0 fr_).toNat = (j - max 0 fr_).toNat + 1 from by omega]; rw [hlo]; exact (rg_next okb (by omega) (by rw [hpj]; unfold gV; clear hlo hhi; cases vertical <;> first | rfl | contradiction)).1)), (by (rw [show (j + 1 - max 0 fr_).toNat = (j - max 0 fr_).toNat + 1 from by omega]; rw [hhi]; exact (rg_next okb (by omega) (by rw [hpj]; unfold gV; clear hlo hhi; cases vertical <;> first | rfl | contradiction)).2)), trivial⟩) (by first | (show (((b.length : Int) - (j + 1)).toNat : Nat) < ((b.length : Int) - j).toNat; omega) | (dsimp only; omega))
     have hcx : (j - max 0 fr_).toNat = (min (to_ + 1) (b.length : Int) - max 0 fr_ - 1).toNat + 1 := by omega
     refine x_r [(2, .dec true), (7, .dec false)] [0, 2, 3, 10, 11, 12, 24] [] [slFeat false b, I to_, Bv vertical, I low, I high, I j, Bv false] [] [j ≤ to_, ¬ (j < (b.length : Int))] ⟨h1, h2, trivial⟩ ?_
     refine xe_then ?_
     refine x_false rfl ?_
     refine x_exit ?_
     refine xe_exit_then ?_
     refine xe_loop_exit ?_
     refine xe_exit_same ?_
     refine xe_then ?_
     refine xR [] [8, 9] [] [I low, I high] [] [] trivial ?_
     refine x_ret ?_
     refine xe_end (low, high) (show (low = mnR (gV b vertical) (max 0 fr_).toNat (min (to_ + 1) (b.length : Int) - max 0 fr_ - 1).toNat) ∧ (high = mxR (gV b vertical) (max 0 fr_).toNat (min (to_ + 1) (b.length : Int) - max 0 fr_ - 1).toNat) ∧ (True) from ⟨(by (first | rw [hlo] | rw [hhi]); (rw [hcx]; first | (unfold rgL; rw [if_neg (by omega)]; rfl) | (unfold rgH; rw [if_neg (by omega)]; rfl))), (by (first | rw [hlo] | rw [hhi]); (rw [hcx]; first | (unfold rgL; rw [if_neg (by omega)]; rfl) | (unfold rgH; rw [if_neg (by omega)]; rfl))), trivial⟩) (trivial) (.tup [I low, I high]) (by kernel_rfl) (.inl rfl) (fun _ => rfl) (fun _ => (by simp [tagged, taggedL]))
    have hcx : (j - max 0 fr_).toNat = (min (to_ + 1) (b.length : Int) - max 0 fr_ - 1).toNat + 1 := by omega
    refine x_r [(2, .dec false)] [0, 2, 3, 10, 11, 12, 24] [] [slFeat false b, I to_, Bv vertical, I low, I high, I j, Bv false] [] [¬ (j ≤ to_)] ⟨h1, trivial⟩ ?_
    refine xe_then ?_
    refine x_false rfl ?_
    refine x_exit ?_
    refine xe_exit_then ?_
    refine xe_loop_exit ?_
    refine xe_exit_same ?_
    refine xe_then ?_
    refine xR [] [8, 9] [] [I low, I high] [] [] trivial ?_
    refine x_ret ?_
    refine xe_end (low, high) (show (low = mnR (gV b vertical) (max 0 fr_).toNat (min (to_ + 1) (b.length : Int) - max 0 fr_ - 1).toNat) ∧ (high = mxR (gV b vertical) (max 0 fr_).toNat (min (to_ + 1) (b.length : Int) - max 0 fr_ - 1).toNat) ∧ (True) from ⟨(by (first | rw [hlo] | rw [hhi]); (rw [hcx]; first | (unfold rgL; rw [if_neg (by omega)]; rfl) | (unfold rgH; rw [if_neg (by omega)]; rfl))), (by (first | rw [hlo] | rw [hhi]); (rw [hcx]; first | (unfold rgL; rw [if_neg (by omega)]; rfl) | (unfold rgH; rw [if_neg (by omega)]; rfl))), trivial⟩) (trivial) (.tup [I low, I high]) (by kernel_rfl) (.inl rfl) (fun _ => rfl) (fun _ => (by simp [tagged, taggedL]))
  obtain ⟨⟨lo, hi⟩, ⟨hh0, hh1, _⟩, hc⟩ := hh
  exact ⟨lo, hi, hh0, hh1, hc⟩


-- spec.l10Of
set_option maxHeartbeats 8000000 in
theorem l10Of_ok (b : List Feat) (n : Int) (band : Int) (okb : okFeats b 72 = true) (hn : 1 ≤ n ∧ n ≤ 72) (hbd : 0 ≤ band ∧ band ≤ 72) (hin : inBd band n.toNat b.length) : ∃ (v : Envelope), (v = envV b band n.toNat) ∧ Con Try.prog 54 [slFeat false b, I n, I band] true (agEnvelopeT v) := by
  have hbn := okFeats_n okb
  have hin2 := hin
  unfold inBd at hin2
  have hh : ∃ r : Envelope, ((r = envV b band n.toNat) ∧ (True)) ∧ CallOK Try.prog 54 [slFeat false b, I n, I band] (lookO []) true (agEnvelopeT r) (lookO []) := by
    refine fn_okX (Φ := fun r : Envelope => (r = envV b band n.toNat) ∧ (True)) [] (fun r => []) (fn := Try.f54) (nt := 66) Try.func54 rfl rfl (args := [slFeat false b, I n, I band]) rfl (allcons (.inl ⟨rfl, tagFeat false _⟩) (allcons (.inl ⟨rfl, trivial⟩) (allcons (.inl ⟨rfl, trivial⟩) allnil))) (res := fun r => agEnvelopeT r) ?_
    refine xR [(0, .new 6)] [0, 1, 2, 6] [6] [slFeat false b, I n, I band, .ref 6 0] [some (.box [nilA, nilA, nilA, nilA])] [] trivial ?_
    refine xR [(1, .new 7)] [0, 1, 2, 6, 7] [6, 7] [slFeat false b, I n, I band, .ref 6 0, .ref 7 0] [some (.box [nilA, nilA, nilA, nilA]), some (.box [nilA, nilA, nilA, nilA])] [] trivial ?_
    refine x_seq ?_
    refine xR [] [0, 1, 2, 6, 7, 8] [6, 7] [slFeat false b, I n, I band, .ref 6 0, .ref 7 0, I 0] [some (.box [nilA, nilA, nilA, nilA]), some (.box [nilA, nilA, nilA, nilA])] [] trivial ?_
    refine x_block ?_
    refine x_nilC 7 0 770 1 (fun _ => []) rfl (by kernel_rfl) ?_
    refine x_nilC 7 1 771 1 (fun _ => []) rfl (by kernel_rfl) ?_
    refine x_nilC 7 2 772 1 (fun _ => []) rfl (by kernel_rfl) ?_
    refine x_nilC 7 3 773 1 (fun _ => []) rfl (by kernel_rfl) ?_
    refine x_weak [] (T := [(0, slFeat false b), (1, I n), (2, I band), (6, .ref 6 0), (7, .ref 7 0), (8, I 0)]) (O := [(6, .box [nilA, nilA, nilA, nilA]), (7, .box [.arr 770, .arr 771, .arr 772, .arr 773]), (770, .arr 1 (([] : List Int).length) (fI ([] : List Int))), (771, .arr 1 (([] : List Int).length) (fI ([] : List Int))), (772, .arr 1 (([] : List Int).length) (fI ([] : List Int))), (773, .arr 1 (([] : List Int).length) (fI ([] : List Int)))]) rfl (⟨.inl rfl, .inl rfl, .inl rfl, .inl rfl, .inl rfl, .inl rfl, trivial⟩) (⟨.inl rfl, .inl rfl, .inr ⟨rfl, (by first | rfl | (simp; done) | (simp; omega) | omega), fun i_ hi_ => absurd hi_ (Nat.not_lt_zero _)⟩, .inr ⟨rfl, (by first | rfl | (simp; done) | (simp; omega) | omega), fun i_ hi_ => absurd hi_ (Nat.not_lt_zero _)⟩, .inr ⟨rfl, (by first | rfl | (simp; done) | (simp; omega) | omega), fun i_ hi_ => absurd hi_ (Nat.not_lt_zero _)⟩, .inr ⟨rfl, (by first | rfl | (simp; done) | (simp; omega) | omega), fun i_ hi_ => absurd hi_ (Nat.not_lt_zero _)⟩, trivial⟩) ?_
    refine x_loop (X := Int × (List Int) × (List Int) × (List Int) × (List Int)) (fun x => mkS [(0, slFeat false b), (1, I n), (2, I band), (6, .ref 6 0), (7, .ref 7 0), (8, I x.1)] [(6, .box [nilA, nilA, nilA, nilA]), (7, .box [.arr 770, .arr 771, .arr 772, .arr 773]), (770, .arr 1 x.2.1.length (fI x.2.1)), (771, .arr 1 x.2.2.1.length (fI x.2.2.1)), (772, .arr 1 x.2.2.2.1.length (fI x.2.2.2.1)), (773, .arr 1 x.2.2.2.2.length (fI x.2.2.2.2))]) (fun x => (0 ≤ x.1 ∧ x.1 ≤ n) ∧ (x.2.1 = rngM (loE Feat.X b band) x.1.toNat) ∧ (x.2.2.1 = rngM (hiE Feat.X b band) x.1.toNat) ∧ (x.2.2.2.1 = rngM (loE Feat.Y b band) x.1.toNat) ∧ (x.2.2.2.2 = rngM (hiE Feat.Y b band) x.1.toNat) ∧ True) (fun x => (n - x.1).toNat) (0, ([] : List Int), ([] : List Int), ([] : List Int), ([] : List Int)) rfl (show (0 ≤ (0 : Int) ∧ (0 : Int) ≤ n) ∧ (([] : List Int) = rngM (loE Feat.X b band) (0 : Int).toNat) ∧ (([] : List Int) = rngM (hiE Feat.X b band) (0 : Int).toNat) ∧ (([] : List Int) = rngM (loE Feat.Y b band) (0 : Int).toNat) ∧ (([] : List Int) = rngM (hiE Feat.Y b band) (0 : Int).toNat) ∧ True from ⟨(by omega), (by rfl), (by rfl), (by rfl), (by rfl), trivial⟩) (fun x hI => ?_)
    obtain ⟨i, lx, hx, ly, hy⟩ := x
    obtain ⟨hi0, hlx, hhx, hly, hhy, _⟩ : (0 ≤ i ∧ i ≤ n) ∧ (lx = rngM (loE Feat.X b band) i.toNat) ∧ (hx = rngM (hiE Feat.X b band) i.toNat) ∧ (ly = rngM (loE Feat.Y b band) i.toNat) ∧ (hy = rngM (hiE Feat.Y b band) i.toNat) ∧ True := hI
    show XW _ _ _ _ (mkS [(0, slFeat false b), (1, I n), (2, I band), (6, .ref 6 0), (7, .ref 7 0), (8, I i)] [(6, .box [nilA, nilA, nilA, nilA]), (7, .box [.arr 770, .arr 771, .arr 772, .arr 773]), (770, .arr 1 lx.length (fI lx)), (771, .arr 1 hx.length (fI hx)), (772, .arr 1 ly.length (fI ly)), (773, .arr 1 hy.length (fI hy))]) _ _
    refine x_seq ?_
    refine x_seq ?_
    by_cases h1 : i < n
    ·have hix : ((i.toNat : Nat) : Int) = i := by omega
     have hnx : (i + 1).toNat = i.toNat + 1 := by omega
     have hlx1 : lx.length = i.toNat ∧ hx.length = i.toNat ∧ ly.length = i.toNat ∧ hy.length = i.toNat := by rw [hlx, hhx, hly, hhy]; exact ⟨rngM_len _ _, rngM_len _ _, rngM_len _ _, rngM_len _ _⟩
     refine x_r [(2, .dec true)] [0, 1, 2, 6, 7, 8, 16] [6, 7, 770, 771, 772, 773] [slFeat false b, I n, I band, .ref 6 0, .ref 7 0, I i, Bv true] [some (.box [nilA, nilA, nilA, nilA]), some (.box [.arr 770, .arr 771, .arr 772, .arr 773]), some (.arr 1 lx.length (fI lx)), some (.arr 1 hx.length (fI hx)), some (.arr 1 ly.length (fI ly)), some (.arr 1 hy.length (fI hy))] [i < n] ⟨h1, trivial⟩ ?_
     refine xe_then ?_
     refine x_true rfl ?_
     refine x_skip ?_
     refine xe_then ?_
     refine x_seq ?_
     refine x_block ?_
     refine x_seq ?_
     obtain ⟨lo_1, hi_1, hx1_0, hx1_1, hc1⟩ := l10Range_ok b (i - band) (i + band) false okb (by omega)
     have hlX : lo_1 = loE Feat.X b band i.toNat := by rw [hx1_0]; show mnR (fun j => (at_ b j).X) _ _ = mnR (fun j => (at_ b j).X) _ _; congr 1 <;> (first | unfold fromN | unfold cntN) <;> omega
     have hhX : hi_1 = hiE Feat.X b band i.toNat := by rw [hx1_1]; show mxR (fun j => (at_ b j).X) _ _ = mxR (fun j => (at_ b j).X) _ _; congr 1 <;> (first | unfold fromN | unfold cntN) <;> omega
     refine x_r [(7, .call [(true, .any), (true, .any), (true, .any), (true, .any)] true (.tup [I lo_1, I hi_1]))] [0, 1, 2, 6, 7, 8, 9, 10] [6, 7, 770, 771, 772, 773] [slFeat false b, I n, I band, .ref 6 0, .ref 7 0, I i, I lo_1, I hi_1] [some (.box [nilA, nilA, nilA, nilA]), some (.box [.arr 770, .arr 771, .arr 772, .arr 773]), some (.arr 1 lx.length (fI lx)), some (.arr 1 hx.length (fI hx)), some (.arr 1 ly.length (fI ly)), some (.arr 1 hy.length (fI hy))] [inR .i64 (i - band), inR .i64 (i + band), Con Try.prog 77 [slFeat false b, I (i - band), I (i + band), Bv false] true (.tup [I lo_1, I hi_1]) ∧ True] ⟨(inR_i64 (by omega) (by omega)), (inR_i64 (by omega) (by omega)), ⟨hc1, trivial⟩, trivial⟩ ?_
     refine xe_then ?_
     refine x_seq ?_
     obtain ⟨lo_2, hi_2, hx2_0, hx2_1, hc2⟩ := l10Range_ok b (i - band) (i + band) true okb (by omega)
     have hlY : lo_2 = loE Feat.Y b band i.toNat := by rw [hx2_0]; show mnR (fun j => (at_ b j).Y) _ _ = mnR (fun j => (at_ b j).Y) _ _; congr 1 <;> (first | unfold fromN | unfold cntN) <;> omega
     have hhY : hi_2 = hiE Feat.Y b band i.toNat := by rw [hx2_1]; show mxR (fun j => (at_ b j).Y) _ _ = mxR (fun j => (at_ b j).Y) _ _; congr 1 <;> (first | unfold fromN | unfold cntN) <;> omega
     refine x_r [(7, .call [(true, .any), (true, .any), (true, .any), (true, .any)] true (.tup [I lo_2, I hi_2]))] [0, 1, 2, 6, 7, 8, 9, 10, 11, 12] [6, 7, 770, 771, 772, 773] [slFeat false b, I n, I band, .ref 6 0, .ref 7 0, I i, I lo_1, I hi_1, I lo_2, I hi_2] [some (.box [nilA, nilA, nilA, nilA]), some (.box [.arr 770, .arr 771, .arr 772, .arr 773]), some (.arr 1 lx.length (fI lx)), some (.arr 1 hx.length (fI hx)), some (.arr 1 ly.length (fI ly)), some (.arr 1 hy.length (fI hy))] [inR .i64 (i - band), inR .i64 (i + band), Con Try.prog 77 [slFeat false b, I (i - band), I (i + band), Bv true] true (.tup [I lo_2, I hi_2]) ∧ True] ⟨(inR_i64 (by omega) (by omega)), (inR_i64 (by omega) (by omega)), ⟨hc2, trivial⟩, trivial⟩ ?_
     refine xe_then ?_
     refine xR [(3, .new 44), (4, .new 45)] [0, 1, 2, 6, 7, 8, 10, 11, 12] [6, 7, 45, 771, 772, 773] [slFeat false b, I n, I band, .ref 6 0, .ref 7 0, I i, I hi_1, I lo_2, I hi_2] [some (.box [nilA, nilA, nilA, nilA]), some (.box [.arr 45, .arr 771, .arr 772, .arr 773]), some (.arr 1 (lx.length + 1) (catF lx.length (fI lx) (litF [I lo_1] 1))), some (.arr 1 hx.length (fI hx)), some (.arr 1 ly.length (fI ly)), some (.arr 1 hy.length (fI hy))] [(lx.length + 1) * 8 ≤ 140737488355328] ⟨(by omega), trivial⟩ ?_
     refine xR [(3, .new 50), (4, .new 51)] [0, 1, 2, 6, 7, 8, 11, 12] [6, 7, 45, 51, 772, 773] [slFeat false b, I n, I band, .ref 6 0, .ref 7 0, I i, I lo_2, I hi_2] [some (.box [nilA, nilA, nilA, nilA]), some (.box [.arr 45, .arr 51, .arr 772, .arr 773]), some (.arr 1 (lx.length + 1) (catF lx.length (fI lx) (litF [I lo_1] 1))), some (.arr 1 (hx.length + 1) (catF hx.length (fI hx) (litF [I hi_1] 1))), some (.arr 1 ly.length (fI ly)), some (.arr 1 hy.length (fI hy))] [(hx.length + 1) * 8 ≤ 140737488355328] ⟨(by omega), trivial⟩ ?_
     refine xR [(3, .new 56), (4, .new 57)] [0, 1, 2, 6, 7, 8, 12] [6, 7, 45, 51, 57, 773] [slFeat false b, I n, I band, .ref 6 0, .ref 7 0, I i, I hi_2] [some (.box [nilA, nilA, nilA, nilA]), some (.box [.arr 45, .arr 51, .arr 57, .arr 773]), some (.arr 1 (lx.length + 1) (catF lx.length (fI lx) (litF [I lo_1] 1))), some (.arr 1 (hx.length + 1) (catF hx.length (fI hx) (litF [I hi_1] 1))), some (.arr 1 (ly.length + 1) (catF ly.length (fI ly) (litF [I lo_2] 1))), some (.arr 1 hy.length (fI hy))] [(ly.length + 1) * 8 ≤ 140737488355328] ⟨(by omega), trivial⟩ ?_
     refine x_r [(3, .new 62), (4, .new 63)] [0, 1, 2, 6, 7, 8] [6, 7, 45, 51, 57, 63] [slFeat false b, I n, I band, .ref 6 0, .ref 7 0, I i] [some (.box [nilA, nilA, nilA, nilA]), some (.box [.arr 45, .arr 51, .arr 57, .arr 63]), some (.arr 1 (lx.length + 1) (catF lx.length (fI lx) (litF [I lo_1] 1))), some (.arr 1 (hx.length + 1) (catF hx.length (fI hx) (litF [I hi_1] 1))), some (.arr 1 (ly.length + 1) (catF ly.length (fI ly) (litF [I lo_2] 1))), some (.arr 1 (hy.length + 1) (catF hy.length (fI hy) (litF [I hi_2] 1)))] [(hy.length + 1) * 8 ≤ 140737488355328] ⟨(by omega), trivial⟩ ?_
     refine xe_block 1 ?_
     refine xe_then ?_
     refine x_r [] [0, 1, 2, 6, 7, 8] [6, 7, 45, 51, 57, 63] [slFeat false b, I n, I band, .ref 6 0, .ref 7 0, I (i + 1)] [some (.box [nilA, nilA, nilA, nilA]), some (.box [.arr 45, .arr 51, .arr 57, .arr 63]), some (.arr 1 (lx.length + 1) (catF lx.length (fI lx) (litF [I lo_1] 1))), some (.arr 1 (hx.length + 1) (catF hx.length (fI hx) (litF [I hi_1] 1))), some (.arr 1 (ly.length + 1) (catF ly.length (fI ly) (litF [I lo_2] 1))), some (.arr 1 (hy.length + 1) (catF hy.length (fI hy) (litF [I hi_2] 1)))] [inR .i64 (i + 1)] ⟨(inR_i64 (by omega) (by omega)), trivial⟩ ?_
     refine xe_weak [(770, 45), (771, 51), (772, 57), (773, 63)] (T := [(0, slFeat false b), (1, I n), (2, I band), (6, .ref 6 0), (7, .ref 7 0), (8, I (i + 1))]) (O := [(6, .box [nilA, nilA, nilA, nilA]), (7, .box [.arr 770, .arr 771, .arr 772, .arr 773]), (770, .arr 1 ((lx ++ [lo_1]).length) (fI (lx ++ [lo_1]))), (771, .arr 1 ((hx ++ [hi_1]).length) (fI (hx ++ [hi_1]))), (772, .arr 1 ((ly ++ [lo_2]).length) (fI (ly ++ [lo_2]))), (773, .arr 1 ((hy ++ [hi_2]).length) (fI (hy ++ [hi_2])))]) rfl (⟨.inl rfl, .inl rfl, .inl rfl, .inl rfl, .inl rfl, .inl rfl, trivial⟩) (⟨.inl rfl, .inl rfl, .inr ⟨rfl, (by first | rfl | (simp; done) | (simp; omega) | omega), fun i_ hi_ => .inl (cat_snoc (enc := cI) (xs := lx) rfl i_ hi_)⟩, .inr ⟨rfl, (by first | rfl | (simp; done) | (simp; omega) | omega), fun i_ hi_ => .inl (cat_snoc (enc := cI) (xs := hx) rfl i_ hi_)⟩, .inr ⟨rfl, (by first | rfl | (simp; done) | (simp; omega) | omega), fun i_ hi_ => .inl (cat_snoc (enc := cI) (xs := ly) rfl i_ hi_)⟩, .inr ⟨rfl, (by first | rfl | (simp; done) | (simp; omega) | omega), fun i_ hi_ => .inl (cat_snoc (enc := cI) (xs := hy) rfl i_ hi_)⟩, trivial⟩) (xe_again ((i + 1), (lx ++ [lo_1]), (hx ++ [hi_1]), (ly ++ [lo_2]), (hy ++ [hi_2])) rfl (show (0 ≤ (i + 1) ∧ (i + 1) ≤ n) ∧ ((lx ++ [lo_1]) = rngM (loE Feat.X b band) (i + 1).toNat) ∧ ((hx ++ [hi_1]) = rngM (hiE Feat.X b band) (i + 1).toNat) ∧ ((ly ++ [lo_2]) = rngM (loE Feat.Y b band) (i + 1).toNat) ∧ ((hy ++ [hi_2]) = rngM (hiE Feat.Y b band) (i + 1).toNat) ∧ True from ⟨(by omega), (by (rw [hnx, hlx]; exact rngM_next hlX)), (by (rw [hnx, hhx]; exact rngM_next hhX)), (by (rw [hnx, hly]; exact rngM_next hlY)), (by (rw [hnx, hhy]; exact rngM_next hhY)), trivial⟩) (by first | (show ((n - (i + 1)).toNat : Nat) < (n - i).toNat; omega) | (dsimp only; omega)))
    have hie : i.toNat = n.toNat := by omega
    refine x_r [(2, .dec false)] [0, 1, 2, 6, 7, 8, 16] [6, 7, 770, 771, 772, 773] [slFeat false b, I n, I band, .ref 6 0, .ref 7 0, I i, Bv false] [some (.box [nilA, nilA, nilA, nilA]), some (.box [.arr 770, .arr 771, .arr 772, .arr 773]), some (.arr 1 lx.length (fI lx)), some (.arr 1 hx.length (fI hx)), some (.arr 1 ly.length (fI ly)), some (.arr 1 hy.length (fI hy))] [¬ (i < n)] ⟨h1, trivial⟩ ?_
    refine xe_then ?_
    refine x_false rfl ?_
    refine x_exit ?_
    refine xe_exit_then ?_
    refine xe_loop_exit ?_
    refine xe_exit_same ?_
    refine xe_then ?_
    refine xR [] [6] [6, 770, 771, 772, 773] [.ref 6 0] [some (.box [.arr 770, .arr 771, .arr 772, .arr 773]), some (.arr 1 lx.length (fI lx)), some (.arr 1 hx.length (fI hx)), some (.arr 1 ly.length (fI ly)), some (.arr 1 hy.length (fI hy))] [] trivial ?_
    refine x_ret ?_
    refine xe_end (Envelope.mk lx hx ly hy) (show ((Envelope.mk lx hx ly hy) = envV b band n.toNat) ∧ (True) from ⟨(by (unfold envV; rw [hlx, hhx, hly, hhy, hie])), trivial⟩) (trivial) (.agg [.arr 770, .arr 771, .arr 772, .arr 773]) (by kernel_rfl) (.inr ⟨⟨(fun _ => rfl), rfl, rfl, fun i _ => .inl rfl⟩, ⟨⟨(fun _ => rfl), rfl, rfl, fun i _ => .inl rfl⟩, ⟨⟨(fun _ => rfl), rfl, rfl, fun i _ => .inl rfl⟩, ⟨⟨(fun _ => rfl), rfl, rfl, fun i _ => .inl rfl⟩, rfl⟩⟩⟩⟩) (fun _ => rfl) (fun _ => (by simp [tagged, taggedL, tagI]))
  obtain ⟨v, ⟨hh0, _⟩, hc⟩ := hh
  exact ⟨v, hh0, hc⟩


-- spec.l10Off
theorem l10Off_ok (n : Int) (low : Int) (high : Int) (h1 : -1000 ≤ n ∧ n ≤ 1000) (h2 : -1000 ≤ low ∧ low ≤ 1000) (h3 : -1000 ≤ high ∧ high ≤ 1000) : Con Try.prog 78 [I n, I low, I high] true (I (offI n low high)) := by
  refine fn_ok (fn := Try.f78) (nt := 15) Try.func78 rfl rfl rfl rfl (by simp [taggedL, tagged]) fun B hB => ?_
  refine aR [] [0, 1, 2] [] [I n, I low, I high] [] [] hB trivial ?_
  refine aR [(6, .call [(true, .any), (true, .any)] true (I (max (low - n) (n - high)))), (7, .call [(true, .any), (true, .any)] true (I (max 0 (max (low - n) (n - high)))))] [6] [] [I (max 0 (max (low - n) (n - high)))] [] [inR .i64 (low - n), inR .i64 (n - high), Con Try.prog 41 [I (low - n), I (n - high)] true (I (max (low - n) (n - high))) ∧ True, Con Try.prog 41 [I 0, I (max (low - n) (n - high))] true (I (max 0 (max (low - n) (n - high)))) ∧ True] hB ⟨(inR_i64 (by omega) (by omega)), (inR_i64 (by omega) (by omega)), ⟨(l00Max_ok (low - n) (n - high)), trivial⟩, ⟨(l00Max_ok 0 (max (low - n) (n - high))), trivial⟩, trivial⟩ ?_
  refine aw_ret ?_
  refine ae_ret hB (I (max 0 (max (low - n) (n - high)))) (by kernel_rfl) (.inl (by refine congrArg I ?_; unfold offI; omega)) rfl (fun _ => trivial)


-- spec.l10Outside
theorem l10Outside_ok (a : List Feat) (e : Envelope) (oka : okFeats a 72 = true) (hen : okEn e a.length) : Con Try.prog 55 [slFeat false a, .ptr false [slI false e.LowX, slI false e.HighX, slI false e.LowY, slI false e.HighY]] true (I (sumN a.length (offE a e))) := by
  have n1 := okFeats_n oka
  have hel := hen.1
  refine fn_ok (fn := Try.f55) (nt := 57) Try.func55 rfl rfl rfl rfl (by simp [taggedL, tagged, tagFeat, tagI]) fun B hB => ?_
  refine aw_lens (x := slFeat false a) 0 rfl (fun len_a => ?_)
  simp [LenOK, LenL, cFeat, fFeat, slFeat] at len_a
  refine aw_lens (x := .ptr false [slI false e.LowX, slI false e.HighX, slI false e.LowY, slI false e.HighY]) 1 rfl (fun len_e => ?_)
  simp [LenOK, LenL, cI, fI, slI] at len_e
  refine aR [] [0, 1] [] [slFeat false a, .ptr false [slI false e.LowX, slI false e.HighX, slI false e.LowY, slI false e.HighY]] [] [] hB trivial ?_
  refine aR [] [0, 1, 5] [] [slFeat false a, .ptr false [slI false e.LowX, slI false e.HighX, slI false e.LowY, slI false e.HighY], I 0] [] [] hB trivial ?_
  refine aw_seq ?_
  refine aR [] [0, 1, 5, 6] [] [slFeat false a, .ptr false [slI false e.LowX, slI false e.HighX, slI false e.LowY, slI false e.HighY], I 0, I 0] [] [] hB trivial ?_
  refine aw_block ?_
  refine aw_loop (fun gn gσ => ∃ (sum : Int) (i : Int), gn = ((a.length : Int) - i).toNat ∧ (0 ≤ i ∧ i ≤ (a.length : Int)) ∧ (sum = sumN i.toNat (offE a e)) ∧ (0 ≤ sum ∧ sum ≤ 510 * i) ∧ gσ = mkS [(0, slFeat false a), (1, .ptr false [slI false e.LowX, slI false e.HighX, slI false e.LowY, slI false e.HighY]), (5, I sum), (6, I i)] []) (((a.length : Int) - 0).toNat) ⟨0, 0, rfl, (by omega), (by rfl), (by omega), rfl⟩ (fun gn gσ hI => ?_)
  obtain ⟨sum, i, rfl, hi0, hsu, hsb, rfl⟩ := hI
  refine aw_seq ?_
  refine aw_seq ?_
  by_cases h1 : i < (a.length : Int)
  ·have hi : i.toNat < a.length := by omega
   have hf := okF_iff.1 (okFeats_at oka hi)
   have heb := hen.2 i.toNat hi
   have hob := off_bd oka rfl hen hi
   have ho2 : (-3000 ≤ offI (at_ a i.toNat).X (at_ e.LowX i.toNat) (at_ e.HighX i.toNat) ∧ offI (at_ a i.toNat).X (at_ e.LowX i.toNat) (at_ e.HighX i.toNat) ≤ 3000) ∧ -3000 ≤ offI (at_ a i.toNat).Y (at_ e.LowY i.toNat) (at_ e.HighY i.toNat) ∧ offI (at_ a i.toNat).Y (at_ e.LowY i.toNat) (at_ e.HighY i.toNat) ≤ 3000 := by unfold offI; omega
   refine aw_r [(3, .dec true)] [0, 1, 5, 6, 10] [] [slFeat false a, .ptr false [slI false e.LowX, slI false e.HighX, slI false e.LowY, slI false e.HighY], I sum, I i, Bv true] [] [i < (a.length : Int)] hB ⟨h1, trivial⟩ ?_
   refine ae_then ?_
   refine aw_true rfl ?_
   refine aw_skip ?_
   refine ae_then ?_
   refine aw_seq ?_
   refine aw_block ?_
   refine aw_r [(20, .call [(true, .any), (true, .any), (true, .any)] true (I (offI ((at_ a i.toNat).X) (at_ e.LowX i.toNat) (at_ e.HighX i.toNat)))), (40, .call [(true, .any), (true, .any), (true, .any)] true (I (offI ((at_ a i.toNat).Y) (at_ e.LowY i.toNat) (at_ e.HighY i.toNat))))] [0, 1, 5, 6] [] [slFeat false a, .ptr false [slI false e.LowX, slI false e.HighX, slI false e.LowY, slI false e.HighY], I (sum + ((offI ((at_ a i.toNat).X) (at_ e.LowX i.toNat) (at_ e.HighX i.toNat)) + (offI ((at_ a i.toNat).Y) (at_ e.LowY i.toNat) (at_ e.HighY i.toNat)))), I i] [] [(0 : Int) ≤ i ∧ i < (a.length : Int), (0 : Int) ≤ i ∧ i < (e.LowX.length : Int), (0 : Int) ≤ i ∧ i < (e.HighX.length : Int), Con Try.prog 78 [I ((at_ a i.toNat).X), I (at_ e.LowX i.toNat), I (at_ e.HighX i.toNat)] true (I (offI ((at_ a i.toNat).X) (at_ e.LowX i.toNat) (at_ e.HighX i.toNat))) ∧ True, (0 : Int) ≤ i ∧ i < (a.length : Int), (0 : Int) ≤ i ∧ i < (e.LowY.length : Int), (0 : Int) ≤ i ∧ i < (e.HighY.length : Int), Con Try.prog 78 [I ((at_ a i.toNat).Y), I (at_ e.LowY i.toNat), I (at_ e.HighY i.toNat)] true (I (offI ((at_ a i.toNat).Y) (at_ e.LowY i.toNat) (at_ e.HighY i.toNat))) ∧ True, inR .i64 ((offI ((at_ a i.toNat).X) (at_ e.LowX i.toNat) (at_ e.HighX i.toNat)) + (offI ((at_ a i.toNat).Y) (at_ e.LowY i.toNat) (at_ e.HighY i.toNat))), inR .i64 (sum + ((offI ((at_ a i.toNat).X) (at_ e.LowX i.toNat) (at_ e.HighX i.toNat)) + (offI ((at_ a i.toNat).Y) (at_ e.LowY i.toNat) (at_ e.HighY i.toNat))))] hB ⟨⟨(by omega), (by omega)⟩, ⟨(by omega), (by omega)⟩, ⟨(by omega), (by omega)⟩, ⟨(l10Off_ok ((at_ a i.toNat).X) (at_ e.LowX i.toNat) (at_ e.HighX i.toNat) (by omega) (by omega) (by omega)), trivial⟩, ⟨(by omega), (by omega)⟩, ⟨(by omega), (by omega)⟩, ⟨(by omega), (by omega)⟩, ⟨(l10Off_ok ((at_ a i.toNat).Y) (at_ e.LowY i.toNat) (at_ e.HighY i.toNat) (by omega) (by omega) (by omega)), trivial⟩, (inR_i64 (by omega) (by omega)), (inR_i64 (by omega) (by omega)), trivial⟩ ?_
   refine ae_block 1 ?_
   refine ae_then ?_
   refine aw_r [] [0, 1, 5, 6] [] [slFeat false a, .ptr false [slI false e.LowX, slI false e.HighX, slI false e.LowY, slI false e.HighY], I (sum + ((offI ((at_ a i.toNat).X) (at_ e.LowX i.toNat) (at_ e.HighX i.toNat)) + (offI ((at_ a i.toNat).Y) (at_ e.LowY i.toNat) (at_ e.HighY i.toNat)))), I (i + 1)] [] [inR .i64 (i + 1)] hB ⟨(inR_i64 (by omega) (by omega)), trivial⟩ ?_
   exact ae_again _ (by omega) ⟨(sum + ((offI ((at_ a i.toNat).X) (at_ e.LowX i.toNat) (at_ e.HighX i.toNat)) + (offI ((at_ a i.toNat).Y) (at_ e.LowY i.toNat) (at_ e.HighY i.toNat)))), (i + 1), rfl, (by omega), (by (rw [sumN_succ hi0.1, ← hsu]; unfold offE; omega)), (by (unfold offE at hob; omega)), rfl⟩
  have hie : i.toNat = a.length := by omega
  rw [hie] at hsu
  refine aw_r [(3, .dec false)] [0, 1, 5, 6, 10] [] [slFeat false a, .ptr false [slI false e.LowX, slI false e.HighX, slI false e.LowY, slI false e.HighY], I sum, I i, Bv false] [] [¬ (i < (a.length : Int))] hB ⟨h1, trivial⟩ ?_
  refine ae_then ?_
  refine aw_false rfl ?_
  refine aw_exit ?_
  refine ae_exit_then ?_
  refine ae_exit_then ?_
  refine ae_exit_same ?_
  refine ae_then ?_
  refine aR [] [4] [] [I sum] [] [] hB trivial ?_
  refine aw_ret ?_
  refine ae_ret hB (I sum) (by kernel_rfl) (.inl (by (rw [hsu]))) rfl (fun _ => trivial)


-- spec.l09Cost
theorem l09Cost_ok (a : Feat) (b : Feat) (ha : okF a = true) (hb : okF b = true) : Con Try.prog 79 [agFeat a, agFeat b] true (I (costF a b)) := by
  have ha' := okF_iff.1 ha
  have hb' := okF_iff.1 hb
  refine fn_ok (fn := Try.f79) (nt := 31) Try.func79 rfl rfl rfl rfl (by simp [taggedL, tagged]) fun B hB => ?_
  refine aR [(0, .new 2), (1, .new 3)] [2, 3] [2, 3] [.ref 2 0, .ref 3 0] [some (bxFeat a), some (bxFeat b)] [] hB trivial ?_
  refine aR [(5, .call [(true, .any)] true (I ((a.D - b.D).natAbs : Int)))] [2, 3, 5] [2, 3] [.ref 2 0, .ref 3 0, I ((a.D - b.D).natAbs : Int)] [some (bxFeat a), some (bxFeat b)] [inR .i64 (a.D - b.D), Con Try.prog 53 [I (a.D - b.D)] true (I ((a.D - b.D).natAbs : Int)) ∧ True] hB ⟨(inR_i64 (by omega) (by omega)), ⟨(l09Size_ok (a.D - b.D) (by omega)), trivial⟩, trivial⟩ ?_
  refine aR [(5, .call [(true, .any)] true (I ((a.X - b.X).natAbs : Int))), (11, .call [(true, .any)] true (I ((a.Y - b.Y).natAbs : Int))), (16, .call [(true, .any), (true, .any)] true (I (min ((a.D - b.D).natAbs : Int) (8 - ((a.D - b.D).natAbs : Int)))))] [4] [] [I ((((a.X - b.X).natAbs : Int) + ((a.Y - b.Y).natAbs : Int)) + (16 * (min ((a.D - b.D).natAbs : Int) (8 - ((a.D - b.D).natAbs : Int)))))] [] [inR .i64 (a.X - b.X), Con Try.prog 53 [I (a.X - b.X)] true (I ((a.X - b.X).natAbs : Int)) ∧ True, inR .i64 (a.Y - b.Y), Con Try.prog 53 [I (a.Y - b.Y)] true (I ((a.Y - b.Y).natAbs : Int)) ∧ True, inR .i64 (((a.X - b.X).natAbs : Int) + ((a.Y - b.Y).natAbs : Int)), inR .i64 (8 - ((a.D - b.D).natAbs : Int)), Con Try.prog 42 [I ((a.D - b.D).natAbs : Int), I (8 - ((a.D - b.D).natAbs : Int))] true (I (min ((a.D - b.D).natAbs : Int) (8 - ((a.D - b.D).natAbs : Int)))) ∧ True, inR .i64 (16 * (min ((a.D - b.D).natAbs : Int) (8 - ((a.D - b.D).natAbs : Int)))), inR .i64 ((((a.X - b.X).natAbs : Int) + ((a.Y - b.Y).natAbs : Int)) + (16 * (min ((a.D - b.D).natAbs : Int) (8 - ((a.D - b.D).natAbs : Int)))))] hB ⟨(inR_i64 (by omega) (by omega)), ⟨(l09Size_ok (a.X - b.X) (by omega)), trivial⟩, (inR_i64 (by omega) (by omega)), ⟨(l09Size_ok (a.Y - b.Y) (by omega)), trivial⟩, (inR_i64 (by omega) (by omega)), (inR_i64 (by omega) (by omega)), ⟨(l00Min_ok ((a.D - b.D).natAbs : Int) (8 - ((a.D - b.D).natAbs : Int))), trivial⟩, (inR_i64 (by omega) (by omega)), (inR_i64 (by omega) (by omega)), trivial⟩ ?_
  refine aw_ret ?_
  refine ae_ret hB (I ((((a.X - b.X).natAbs : Int) + ((a.Y - b.Y).natAbs : Int)) + (16 * (min ((a.D - b.D).natAbs : Int) (8 - ((a.D - b.D).natAbs : Int)))))) (by kernel_rfl) (.inl (by refine congrArg I ?_; first | rfl | (unfold costF; omega))) rfl (fun _ => trivial)


-- spec.l10Ends
theorem l10Ends_ok (a : List Feat) (b : List Feat) (oka : okFeats a 72 = true) (okb : okFeats b 72 = true) : Con Try.prog 56 [slFeat false a, slFeat false b] true (I (endI a b)) := by
  have n1 := okFeats_n oka
  have n2 := okFeats_n okb
  have q1 : ((a.length : Int) - 1).toNat = a.length - 1 := by omega
  have q2 : ((b.length : Int) - 1).toNat = b.length - 1 := by omega
  have c1 := costF_bd (okFeats_at oka (by omega : 0 < a.length)) (okFeats_at okb (by omega : 0 < b.length))
  have c2 := costF_bd (okFeats_at oka (by omega : a.length - 1 < a.length)) (okFeats_at okb (by omega : b.length - 1 < b.length))
  rw [← q1, ← q2] at c2
  refine fn_ok (fn := Try.f56) (nt := 37) Try.func56 rfl rfl rfl rfl (by simp [taggedL, tagged, tagFeat]) fun B hB => ?_
  refine aw_lens (x := slFeat false a) 0 rfl (fun len_a => ?_)
  simp [LenOK, LenL, cFeat, fFeat, slFeat] at len_a
  refine aw_lens (x := slFeat false b) 1 rfl (fun len_b => ?_)
  simp [LenOK, LenL, cFeat, fFeat, slFeat] at len_b
  refine aR [] [0, 1] [] [slFeat false a, slFeat false b] [] [] hB trivial ?_
  refine aR [(6, .call [(true, .any), (true, .any)] true (I (costF (at_ a 0) (at_ b 0))))] [0, 1, 5] [] [slFeat false a, slFeat false b, I (costF (at_ a 0) (at_ b 0))] [] [(0 : Int) ≤ 0 ∧ 0 < (a.length : Int), (0 : Int) ≤ 0 ∧ 0 < (b.length : Int), Con Try.prog 79 [agFeat (at_ a 0), agFeat (at_ b 0)] true (I (costF (at_ a 0) (at_ b 0))) ∧ True] hB ⟨⟨(by omega), (by omega)⟩, ⟨(by omega), (by omega)⟩, ⟨(l09Cost_ok (at_ a 0) (at_ b 0) (okFeats_at oka (by omega)) (okFeats_at okb (by omega))), trivial⟩, trivial⟩ ?_
  refine aw_seq ?_
  refine aw_seq ?_
  by_cases h1 : 1 < (a.length : Int)
  ·refine aw_r [(2, .dec true)] [0, 1, 5, 20] [] [slFeat false a, slFeat false b, I (costF (at_ a 0) (at_ b 0)), Bv true] [] [1 < (a.length : Int)] hB ⟨h1, trivial⟩ ?_
   refine ae_then ?_
   refine aw_true rfl ?_
   refine aw_r [(13, .call [(true, .any), (true, .any)] true (I (costF (at_ a (((a.length : Int) - 1).toNat)) (at_ b (((b.length : Int) - 1).toNat)))))] [5] [] [I ((costF (at_ a 0) (at_ b 0)) + (costF (at_ a (((a.length : Int) - 1).toNat)) (at_ b (((b.length : Int) - 1).toNat))))] [] [inR .i64 ((a.length : Int) - 1), (0 : Int) ≤ ((a.length : Int) - 1) ∧ ((a.length : Int) - 1) < (a.length : Int), inR .i64 ((b.length : Int) - 1), (0 : Int) ≤ ((b.length : Int) - 1) ∧ ((b.length : Int) - 1) < (b.length : Int), Con Try.prog 79 [agFeat (at_ a (((a.length : Int) - 1).toNat)), agFeat (at_ b (((b.length : Int) - 1).toNat))] true (I (costF (at_ a (((a.length : Int) - 1).toNat)) (at_ b (((b.length : Int) - 1).toNat)))) ∧ True, inR .i64 ((costF (at_ a 0) (at_ b 0)) + (costF (at_ a (((a.length : Int) - 1).toNat)) (at_ b (((b.length : Int) - 1).toNat))))] hB ⟨(inR_i64 (by omega) (by omega)), ⟨(by omega), (by omega)⟩, (inR_i64 (by omega) (by omega)), ⟨(by omega), (by omega)⟩, ⟨(l09Cost_ok (at_ a (((a.length : Int) - 1).toNat)) (at_ b (((b.length : Int) - 1).toNat)) (okFeats_at oka (by omega)) (okFeats_at okb (by omega))), trivial⟩, (inR_i64 (by omega) (by omega)), trivial⟩ ?_
   refine ae_then ?_
   refine aR [] [4] [] [I ((costF (at_ a 0) (at_ b 0)) + (costF (at_ a (((a.length : Int) - 1).toNat)) (at_ b (((b.length : Int) - 1).toNat))))] [] [] hB trivial ?_
   refine aw_ret ?_
   refine ae_ret hB (I ((costF (at_ a 0) (at_ b 0)) + (costF (at_ a (((a.length : Int) - 1).toNat)) (at_ b (((b.length : Int) - 1).toNat))))) (by kernel_rfl) (.inl (by refine congrArg I ?_; unfold endI; first | (rw [if_pos (by omega), q1, q2]; done) | (rw [if_neg (by omega)]; done))) rfl (fun _ => trivial)
  by_cases h2 : 1 < (b.length : Int)
  ·refine aw_r [(2, .dec false), (6, .dec true)] [0, 1, 5, 20] [] [slFeat false a, slFeat false b, I (costF (at_ a 0) (at_ b 0)), Bv true] [] [¬ (1 < (a.length : Int)), 1 < (b.length : Int)] hB ⟨h1, h2, trivial⟩ ?_
   refine ae_then ?_
   refine aw_true rfl ?_
   refine aw_r [(13, .call [(true, .any), (true, .any)] true (I (costF (at_ a (((a.length : Int) - 1).toNat)) (at_ b (((b.length : Int) - 1).toNat)))))] [5] [] [I ((costF (at_ a 0) (at_ b 0)) + (costF (at_ a (((a.length : Int) - 1).toNat)) (at_ b (((b.length : Int) - 1).toNat))))] [] [inR .i64 ((a.length : Int) - 1), (0 : Int) ≤ ((a.length : Int) - 1) ∧ ((a.length : Int) - 1) < (a.length : Int), inR .i64 ((b.length : Int) - 1), (0 : Int) ≤ ((b.length : Int) - 1) ∧ ((b.length : Int) - 1) < (b.length : Int), Con Try.prog 79 [agFeat (at_ a (((a.length : Int) - 1).toNat)), agFeat (at_ b (((b.length : Int) - 1).toNat))] true (I (costF (at_ a (((a.length : Int) - 1).toNat)) (at_ b (((b.length : Int) - 1).toNat)))) ∧ True, inR .i64 ((costF (at_ a 0) (at_ b 0)) + (costF (at_ a (((a.length : Int) - 1).toNat)) (at_ b (((b.length : Int) - 1).toNat))))] hB ⟨(inR_i64 (by omega) (by omega)), ⟨(by omega), (by omega)⟩, (inR_i64 (by omega) (by omega)), ⟨(by omega), (by omega)⟩, ⟨(l09Cost_ok (at_ a (((a.length : Int) - 1).toNat)) (at_ b (((b.length : Int) - 1).toNat)) (okFeats_at oka (by omega)) (okFeats_at okb (by omega))), trivial⟩, (inR_i64 (by omega) (by omega)), trivial⟩ ?_
   refine ae_then ?_
   refine aR [] [4] [] [I ((costF (at_ a 0) (at_ b 0)) + (costF (at_ a (((a.length : Int) - 1).toNat)) (at_ b (((b.length : Int) - 1).toNat))))] [] [] hB trivial ?_
   refine aw_ret ?_
   refine ae_ret hB (I ((costF (at_ a 0) (at_ b 0)) + (costF (at_ a (((a.length : Int) - 1).toNat)) (at_ b (((b.length : Int) - 1).toNat))))) (by kernel_rfl) (.inl (by refine congrArg I ?_; unfold endI; first | (rw [if_pos (by omega), q1, q2]; done) | (rw [if_neg (by omega)]; done))) rfl (fun _ => trivial)
  refine aw_r [(2, .dec false), (6, .dec false)] [0, 1, 5, 20] [] [slFeat false a, slFeat false b, I (costF (at_ a 0) (at_ b 0)), Bv false] [] [¬ (1 < (a.length : Int)), ¬ (1 < (b.length : Int))] hB ⟨h1, h2, trivial⟩ ?_
  refine ae_then ?_
  refine aw_false rfl ?_
  refine aw_skip ?_
  refine ae_then ?_
  refine aR [] [4] [] [I (costF (at_ a 0) (at_ b 0))] [] [] hB trivial ?_
  refine aw_ret ?_
  refine ae_ret hB (I (costF (at_ a 0) (at_ b 0))) (by kernel_rfl) (.inl (by refine congrArg I ?_; unfold endI; first | (rw [if_pos (by omega), q1, q2]; done) | (rw [if_neg (by omega)]; done))) rfl (fun _ => trivial)


-- spec.l10Bound
theorem l10Bound_ok (a : List Feat) (b : List Feat) (band : Int) (oka : okFeats a 72 = true) (okb : okFeats b 72 = true) (hbd : 0 ≤ band ∧ band ≤ 72) (hin : inBd band a.length b.length) : ∃ (v : Int), (v = lbI a b band) ∧ Con Try.prog 32 [slFeat false a, slFeat false b, I band] true (I v) := by
  have n1 := okFeats_n oka
  have hh : ∃ r : Int, ((r = lbI a b band) ∧ (True)) ∧ CallOK Try.prog 32 [slFeat false a, slFeat false b, I band] (lookO []) true (I r) (lookO []) := by
    refine fn_okX (Φ := fun r : Int => (r = lbI a b band) ∧ (True)) [] (fun r => []) (fn := Try.f32) (nt := 19) Try.func32 rfl rfl (args := [slFeat false a, slFeat false b, I band]) rfl (allcons (.inl ⟨rfl, tagFeat false _⟩) (allcons (.inl ⟨rfl, tagFeat false _⟩) (allcons (.inl ⟨rfl, trivial⟩) allnil))) (res := fun r => I r) ?_
    refine xR [] [0, 1, 2] [] [slFeat false a, slFeat false b, I band] [] [] trivial ?_
    refine x_seq ?_
    obtain ⟨v_1, hx1_0, hc1⟩ := l10Of_ok b (a.length : Int) band okb (by omega) hbd hin
    have hev : v_1 = envV b band a.length := by rw [hx1_0]; rfl
    have heo : okEn v_1 a.length := by rw [hev]; exact envV_ok okb hin
    have hso := out_env a b band
    rw [← hev] at hso
    refine x_r [(4, .call [(true, .any), (true, .any), (true, .any)] true (agEnvelopeT v_1)), (5, .new 7)] [0, 1, 7] [7] [slFeat false a, slFeat false b, .ref 7 0] [some (bxEnvelopeT v_1)] [Con Try.prog 54 [slFeat false b, I (a.length : Int), I band] true (agEnvelopeT v_1) ∧ True] ⟨⟨hc1, trivial⟩, trivial⟩ ?_
    refine xe_then ?_
    refine xR [(1, .call [(true, .any), (false, .ptr false [slI false v_1.LowX, slI false v_1.HighX, slI false v_1.LowY, slI false v_1.HighY])] true (I (sumN a.length (offE a v_1)))), (4, .call [(true, .any), (true, .any)] true (I (endI a b))), (5, .call [(true, .any), (true, .any)] true (I (max (sumN a.length (offE a v_1)) (endI a b))))] [6] [] [I (max (sumN a.length (offE a v_1)) (endI a b))] [] [Con Try.prog 55 [slFeat false a, .ptr false [slI false v_1.LowX, slI false v_1.HighX, slI false v_1.LowY, slI false v_1.HighY]] true (I (sumN a.length (offE a v_1))) ∧ ((false = true → true = true) ∧ AV.idsL [slI false v_1.LowX, slI false v_1.HighX, slI false v_1.LowY, slI false v_1.HighY] = [] ∧ ((false = true → true = true) ∧ 1 = 1 ∧ v_1.LowX.length = v_1.LowX.length ∧ ∀ i_, i_ < v_1.LowX.length → (fI v_1.LowX) i_ = (fI v_1.LowX) i_ ∨ (AV.idsL ((fI v_1.LowX) i_) = [] ∧ leL (fun _ => none) false ((fI v_1.LowX) i_) ((fI v_1.LowX) i_))) ∧ ((false = true → true = true) ∧ 1 = 1 ∧ v_1.HighX.length = v_1.HighX.length ∧ ∀ i_, i_ < v_1.HighX.length → (fI v_1.HighX) i_ = (fI v_1.HighX) i_ ∨ (AV.idsL ((fI v_1.HighX) i_) = [] ∧ leL (fun _ => none) false ((fI v_1.HighX) i_) ((fI v_1.HighX) i_))) ∧ ((false = true → true = true) ∧ 1 = 1 ∧ v_1.LowY.length = v_1.LowY.length ∧ ∀ i_, i_ < v_1.LowY.length → (fI v_1.LowY) i_ = (fI v_1.LowY) i_ ∨ (AV.idsL ((fI v_1.LowY) i_) = [] ∧ leL (fun _ => none) false ((fI v_1.LowY) i_) ((fI v_1.LowY) i_))) ∧ ((false = true → true = true) ∧ 1 = 1 ∧ v_1.HighY.length = v_1.HighY.length ∧ ∀ i_, i_ < v_1.HighY.length → (fI v_1.HighY) i_ = (fI v_1.HighY) i_ ∨ (AV.idsL ((fI v_1.HighY) i_) = [] ∧ leL (fun _ => none) false ((fI v_1.HighY) i_) ((fI v_1.HighY) i_))) ∧ ([] : List AV) = []) ∧ True, Con Try.prog 56 [slFeat false a, slFeat false b] true (I (endI a b)) ∧ True, Con Try.prog 41 [I (sumN a.length (offE a v_1)), I (endI a b)] true (I (max (sumN a.length (offE a v_1)) (endI a b))) ∧ True] ⟨⟨(l10Outside_ok a v_1 oka heo), ⟨(fun h => by cases h), rfl, ⟨⟨(fun h => by cases h), rfl, rfl, fun i _ => .inl rfl⟩, ⟨⟨(fun h => by cases h), rfl, rfl, fun i _ => .inl rfl⟩, ⟨⟨(fun h => by cases h), rfl, rfl, fun i _ => .inl rfl⟩, ⟨⟨(fun h => by cases h), rfl, rfl, fun i _ => .inl rfl⟩, rfl⟩⟩⟩⟩⟩, trivial⟩, ⟨(l10Ends_ok a b oka okb), trivial⟩, ⟨(l00Max_ok (sumN a.length (offE a v_1)) (endI a b)), trivial⟩, trivial⟩ ?_
    refine x_ret ?_
    refine xe_end (max (sumN a.length (offE a v_1)) (endI a b)) (show ((max (sumN a.length (offE a v_1)) (endI a b)) = lbI a b band) ∧ (True) from ⟨(by (unfold lbI; rw [← hso])), trivial⟩) (trivial) (I (max (sumN a.length (offE a v_1)) (endI a b))) (by kernel_rfl) (.inl rfl) (fun _ => rfl) (fun _ => trivial)
  obtain ⟨v, ⟨hh0, _⟩, hc⟩ := hh
  exact ⟨v, hh0, hc⟩


-- spec.LowerBound
theorem specLowerBound_ok (a : List Feat) (b : List Feat) (band : Int) : ∃ (v : Int) (c : Int), (v = lbR a b band) ∧ (c = elCode a b band) ∧ Con Try.prog 11 [slFeat false a, slFeat false b, I band] true (.tup [I v, I c]) := by
  have hh : ∃ r : Int × Int, ((r.1 = lbR a b band) ∧ (r.2 = elCode a b band) ∧ (True)) ∧ CallOK Try.prog 11 [slFeat false a, slFeat false b, I band] (lookO []) true (.tup [I r.1, I r.2]) (lookO []) := by
    refine fn_okX (Φ := fun r : Int × Int => (r.1 = lbR a b band) ∧ (r.2 = elCode a b band) ∧ (True)) [] (fun r => []) (fn := Try.f11) (nt := 20) Try.func11 rfl rfl (args := [slFeat false a, slFeat false b, I band]) rfl (allcons (.inl ⟨rfl, tagFeat false _⟩) (allcons (.inl ⟨rfl, tagFeat false _⟩) (allcons (.inl ⟨rfl, trivial⟩) allnil))) (res := fun r => .tup [I r.1, I r.2]) ?_
    refine xR [] [0, 1, 2] [] [slFeat false a, slFeat false b, I band] [] [] trivial ?_
    refine xR [(3, .call [(true, .any), (true, .any), (true, .any)] true (I (elCode a b band)))] [0, 1, 2, 8] [] [slFeat false a, slFeat false b, I band, I (elCode a b band)] [] [Con Try.prog 31 [slFeat false a, slFeat false b, I band] true (I (elCode a b band)) ∧ True] ⟨⟨(l09Code_ok a b band), trivial⟩, trivial⟩ ?_
    refine x_seq ?_
    refine x_seq ?_
    by_cases h1 : (elCode a b band) = 0
    ·have hcd := elCode_0 (a := a) (b := b) (band := band) (by omega)
     have oka := hcd.1
     have okb := hcd.2.1
     have hbd := hcd.2.2.1
     have hin := hcd.2.2.2
     refine x_r [(1, .dec false)] [0, 1, 2, 8, 14] [] [slFeat false a, slFeat false b, I band, I (elCode a b band), Bv false] [] [¬ ((elCode a b band) ≠ 0)] ⟨(fun hq => hq h1), trivial⟩ ?_
     refine xe_then ?_
     refine x_false rfl ?_
     refine x_skip ?_
     refine xe_then ?_
     refine x_seq ?_
     obtain ⟨v_1, hx1_0, hc1⟩ := l10Bound_ok a b band oka okb hbd hin
     refine x_r [(3, .call [(true, .any), (true, .any), (true, .any)] true (I v_1))] [6, 7] [] [I v_1, I 0] [] [Con Try.prog 32 [slFeat false a, slFeat false b, I band] true (I v_1) ∧ True] ⟨⟨hc1, trivial⟩, trivial⟩ ?_
     refine xe_then ?_
     refine x_ret ?_
     refine xe_end (v_1, 0) (show (v_1 = lbR a b band) ∧ (0 = elCode a b band) ∧ (True) from ⟨(by first | (unfold lbR; rw [if_pos (by assumption)]; assumption) | (unfold lbR; rw [if_neg (by assumption)]) | omega | rfl), (by first | (unfold lbR; rw [if_pos (by assumption)]; assumption) | (unfold lbR; rw [if_neg (by assumption)]) | omega | rfl), trivial⟩) (trivial) (.tup [I v_1, I 0]) (by kernel_rfl) (.inl rfl) (fun _ => rfl) (fun _ => (by simp [tagged, taggedL]))
    refine x_r [(1, .dec true)] [0, 1, 2, 8, 14] [] [slFeat false a, slFeat false b, I band, I (elCode a b band), Bv true] [] [(elCode a b band) ≠ 0] ⟨h1, trivial⟩ ?_
    refine xe_then ?_
    refine x_true rfl ?_
    refine xR [] [6, 7] [] [I 0, I (elCode a b band)] [] [] trivial ?_
    refine x_ret ?_
    refine xe_ret_then ?_
    refine xe_end (0, (elCode a b band)) (show (0 = lbR a b band) ∧ ((elCode a b band) = elCode a b band) ∧ (True) from ⟨(by first | (unfold lbR; rw [if_pos (by assumption)]; assumption) | (unfold lbR; rw [if_neg (by assumption)]) | omega | rfl), (by first | (unfold lbR; rw [if_pos (by assumption)]; assumption) | (unfold lbR; rw [if_neg (by assumption)]) | omega | rfl), trivial⟩) (trivial) (.tup [I 0, I (elCode a b band)]) (by kernel_rfl) (.inl rfl) (fun _ => rfl) (fun _ => (by simp [tagged, taggedL]))
  obtain ⟨⟨v, c⟩, ⟨hh0, hh1, _⟩, hc⟩ := hh
  exact ⟨v, c, hh0, hh1, hc⟩

end Go.Proofs.Ytbapncplieakmaa.Ax
