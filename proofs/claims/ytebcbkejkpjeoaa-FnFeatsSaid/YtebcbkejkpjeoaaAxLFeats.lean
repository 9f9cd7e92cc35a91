/- The statement FnFeats: contracts of what it reaches, and its proof. No conditions. -/
import Derived.Test.YtebcbkejkpjeoaaAxLFeats3
namespace Go.Proofs.Ytebcbkejkpjeoaa.Ax
open Go.RowKit Go.ChangeShapes Go.WideShapes
set_option linter.unusedVariables false
set_option linter.unusedSimpArgs false


-- laws.FnFeats
theorem fnFeats_con (code : List Int) (ok_code : ∀ y ∈ code, inR .u8 y) : Con Try.prog 3 [slU8 false code] true (Bv true) := by
  refine fn_ok (fn := Try.f3) (nt := 89) Try.func3 rfl rfl rfl rfl (by simp [taggedL, tagged, tagU8]) fun B hB => ?_
  refine aw_lens (x := slU8 false code) 0 rfl (fun len_code => ?_)
  simp [LenOK, LenL, cU8, fU8, slU8] at len_code
  refine aw_seq ?_
  refine aw_reg [] [0] [] [slU8 false code] [] [] (by kernel_rfl) hB trivial ?_
  refine ae_then ?_
  refine aw_seq ?_
  refine aw_seq ?_
  rcases Bool.eq_false_or_eq_true (decide (4096 < (code.length : Int))) with h1 | h1
  ·refine aw_reg [(1, .call [(true, slU8 false code)] true (Bv true))] [0, 15] [] [slU8 false code, Bv true] [] [Con Try.prog 7 [slU8 false code] true (Bv true) ∧ ((slU8 false code : AV) = slU8 false code) ∧ True] (by kernel_rfl) hB ⟨⟨(con_bool h1 (f6big_ok code)), rfl, trivial⟩, trivial⟩ ?_
   refine ae_then ?_
   refine aw_true rfl ?_
   refine aw_seq ?_
   refine aw_reg [] [2] [] [Bv true] [] [] (by kernel_rfl) hB trivial ?_
   refine ae_then ?_
   refine aw_ret ?_
   refine ae_ret_then ?_
   refine ae_ret hB (Bv true) (by kernel_rfl) (.inl rfl) rfl (fun _ => trivial)
  ·have hc : (∀ j, j < code.length → 0 ≤ at_ code j ∧ at_ code j ≤ 255) ∧ code.length ≤ 4611686018427387904 := ⟨fun j hj => ok_code _ (at_mem hj), by first | omega | (simp at h1; omega)⟩
   refine aw_reg [(1, .call [(true, slU8 false code)] true (Bv false))] [0, 15] [] [slU8 false code, Bv false] [] [Con Try.prog 7 [slU8 false code] true (Bv false) ∧ ((slU8 false code : AV) = slU8 false code) ∧ True] (by kernel_rfl) hB ⟨⟨(con_bool h1 (f6big_ok code)), rfl, trivial⟩, trivial⟩ ?_
   refine ae_then ?_
   refine aw_false rfl ?_
   refine aw_skip ?_
   refine ae_then ?_
   refine aw_seq ?_
   obtain ⟨x_1, n_1, hx1_0, hc1⟩ := DrawFeatsOf_ok code (by assumption)
   refine aw_reg [(1, .call [(true, slU8 false code)] true (.tup [.agg [slStroke true x_1.Strokes], I n_1])), (5, .new 3)] [0, 3, 4] [3] [slU8 false code, .ref 3 0, I n_1] [some (.box [slStroke true x_1.Strokes])] [Con Try.prog 8 [slU8 false code] true (.tup [.agg [slStroke true x_1.Strokes], I n_1]) ∧ ((slU8 false code : AV) = slU8 false code) ∧ True] (by kernel_rfl) hB ⟨⟨hc1, rfl, trivial⟩, trivial⟩ ?_
   refine ae_then ?_
   refine aw_seq ?_
   refine aw_reg [(2, .call [(false, .agg [slStroke false x_1.Strokes]), (true, I n_1)] true (.tup [slFeat true ((feR x_1 n_1).1), I ((feR x_1 n_1).2)]))] [0, 3, 4, 5, 6] [3] [slU8 false code, .ref 3 0, I n_1, slFeat true ((feR x_1 n_1).1), I ((feR x_1 n_1).2)] [some (.box [slStroke true x_1.Strokes])] [Con Try.prog 9 [.agg [slStroke false x_1.Strokes], I n_1] true (.tup [slFeat true ((feR x_1 n_1).1), I ((feR x_1 n_1).2)]) ∧ (((false = true → true = true) ∧ 1 = 1 ∧ x_1.Strokes.length = x_1.Strokes.length ∧ ∀ i, i < x_1.Strokes.length → (fStroke true x_1.Strokes) i = (fStroke false x_1.Strokes) i ∨ (AV.idsL ((fStroke false x_1.Strokes) i) = [] ∧ leL (fun _ => none) false ((fStroke true x_1.Strokes) i) ((fStroke false x_1.Strokes) i))) ∧ ([] : List AV) = []) ∧ ((I n_1 : AV) = I n_1) ∧ True] (by kernel_rfl) hB ⟨⟨(implFeatsOf_ok x_1 n_1), ⟨⟨(fun h => by cases h), rfl, rfl, fun i _ => .inr ⟨idsStroke _ _, leStroke _ _ _⟩⟩, rfl⟩, rfl, trivial⟩, trivial⟩ ?_
   refine ae_then ?_
   refine aw_seq ?_
   refine aw_reg [(2, .call [(false, .agg [slStroke false x_1.Strokes]), (true, I n_1)] true (.tup [slFeat true ((feR x_1 n_1).1), I ((feR x_1 n_1).2)]))] [0, 3, 4, 5, 6, 7, 8] [3] [slU8 false code, .ref 3 0, I n_1, slFeat true ((feR x_1 n_1).1), I ((feR x_1 n_1).2), slFeat true ((feR x_1 n_1).1), I ((feR x_1 n_1).2)] [some (.box [slStroke true x_1.Strokes])] [Con Try.prog 10 [.agg [slStroke false x_1.Strokes], I n_1] true (.tup [slFeat true ((feR x_1 n_1).1), I ((feR x_1 n_1).2)]) ∧ (((false = true → true = true) ∧ 1 = 1 ∧ x_1.Strokes.length = x_1.Strokes.length ∧ ∀ i, i < x_1.Strokes.length → (fStroke true x_1.Strokes) i = (fStroke false x_1.Strokes) i ∨ (AV.idsL ((fStroke false x_1.Strokes) i) = [] ∧ leL (fun _ => none) false ((fStroke true x_1.Strokes) i) ((fStroke false x_1.Strokes) i))) ∧ ([] : List AV) = []) ∧ ((I n_1 : AV) = I n_1) ∧ True] (by kernel_rfl) hB ⟨⟨(specFeatsOf_ok x_1 n_1), ⟨⟨(fun h => by cases h), rfl, rfl, fun i _ => .inr ⟨idsStroke _ _, leStroke _ _ _⟩⟩, rfl⟩, rfl, trivial⟩, trivial⟩ ?_
   refine ae_then ?_
   refine aw_seq ?_
   refine aw_seq ?_
   refine aw_reg [(2, .dec false), (6, .call [(false, slFeat false ((feR x_1 n_1).1)), (false, slFeat false ((feR x_1 n_1).1))] true (Bv true)), (12, .call [(false, slFeat false ((feR x_1 n_1).1)), (false, slFeat false ((feR x_1 n_1).1))] true (Bv true))] [0, 3, 4, 5, 6, 47] [3] [slU8 false code, .ref 3 0, I n_1, slFeat true ((feR x_1 n_1).1), I ((feR x_1 n_1).2), Bv false] [some (.box [slStroke true x_1.Strokes])] [¬ (((feR x_1 n_1).2) ≠ ((feR x_1 n_1).2)), Con Try.prog 11 [slFeat false ((feR x_1 n_1).1), slFeat false ((feR x_1 n_1).1)] true (Bv true) ∧ ((false = true → true = true) ∧ 3 = 3 ∧ (((feR x_1 n_1).1).length) = (((feR x_1 n_1).1).length) ∧ ∀ i, i < (((feR x_1 n_1).1).length) → (fFeat ((feR x_1 n_1).1)) i = (fFeat ((feR x_1 n_1).1)) i ∨ (AV.idsL ((fFeat ((feR x_1 n_1).1)) i) = [] ∧ leL (fun _ => none) false ((fFeat ((feR x_1 n_1).1)) i) ((fFeat ((feR x_1 n_1).1)) i))) ∧ ((false = true → true = true) ∧ 3 = 3 ∧ (((feR x_1 n_1).1).length) = (((feR x_1 n_1).1).length) ∧ ∀ i, i < (((feR x_1 n_1).1).length) → (fFeat ((feR x_1 n_1).1)) i = (fFeat ((feR x_1 n_1).1)) i ∨ (AV.idsL ((fFeat ((feR x_1 n_1).1)) i) = [] ∧ leL (fun _ => none) false ((fFeat ((feR x_1 n_1).1)) i) ((fFeat ((feR x_1 n_1).1)) i))) ∧ True, Con Try.prog 11 [slFeat false ((feR x_1 n_1).1), slFeat false ((feR x_1 n_1).1)] true (Bv true) ∧ ((false = true → true = true) ∧ 3 = 3 ∧ (((feR x_1 n_1).1).length) = (((feR x_1 n_1).1).length) ∧ ∀ i, i < (((feR x_1 n_1).1).length) → (fFeat ((feR x_1 n_1).1)) i = (fFeat ((feR x_1 n_1).1)) i ∨ (AV.idsL ((fFeat ((feR x_1 n_1).1)) i) = [] ∧ leL (fun _ => none) false ((fFeat ((feR x_1 n_1).1)) i) ((fFeat ((feR x_1 n_1).1)) i))) ∧ ((false = true → true = true) ∧ 3 = 3 ∧ (((feR x_1 n_1).1).length) = (((feR x_1 n_1).1).length) ∧ ∀ i, i < (((feR x_1 n_1).1).length) → (fFeat ((feR x_1 n_1).1)) i = (fFeat ((feR x_1 n_1).1)) i ∨ (AV.idsL ((fFeat ((feR x_1 n_1).1)) i) = [] ∧ leL (fun _ => none) false ((fFeat ((feR x_1 n_1).1)) i) ((fFeat ((feR x_1 n_1).1)) i))) ∧ True] (by kernel_rfl) hB ⟨(fun hq => hq rfl), ⟨(con_bool (sameL_refl _) (specSameFeats_ok ((feR x_1 n_1).1) ((feR x_1 n_1).1))), ⟨(fun h => by cases h), rfl, rfl, fun i _ => .inl rfl⟩, ⟨(fun h => by cases h), rfl, rfl, fun i _ => .inl rfl⟩, trivial⟩, ⟨(con_bool (sameL_refl _) (specSameFeats_ok ((feR x_1 n_1).1) ((feR x_1 n_1).1))), ⟨(fun h => by cases h), rfl, rfl, fun i _ => .inl rfl⟩, ⟨(fun h => by cases h), rfl, rfl, fun i _ => .inl rfl⟩, trivial⟩, trivial⟩ ?_
   refine ae_then ?_
   refine aw_false rfl ?_
   refine aw_skip ?_
   refine ae_then ?_
   refine aw_seq ?_
   refine aw_seq ?_
   by_cases h2 : ((feR x_1 n_1).2) = 0
   ·have hfo := feR_ok h2
    have hfv := fe_valid h2
    have hn2 := inB_iff.1 hfo.2.1
    have hil := okI_len hfo.1
    have hml := mulP_bd (x := n_1) (y := (x_1.Strokes.length : Int)) (A := 24) (B := 16) (by omega) (by omega) (by omega) hil
    refine aw_reg [(1, .dec false)] [0, 3, 4, 5, 49] [3] [slU8 false code, .ref 3 0, I n_1, slFeat true ((feR x_1 n_1).1), Bv false] [some (.box [slStroke true x_1.Strokes])] [¬ (((feR x_1 n_1).2) ≠ 0)] (by kernel_rfl) hB ⟨(fun hq => hq h2), trivial⟩ ?_
    refine ae_then ?_
    refine aw_false rfl ?_
    refine aw_skip ?_
    refine ae_then ?_
    refine aw_seq ?_
    obtain ⟨d'_2, hx2_0, hc2⟩ := f6roll_ok code 801 (by assumption) (by omega)
    refine aw_reg [(1, .lend [] [(7002, bxf6dice d'_2)] [(true, slU8 false code), (true, .val (.int .u64 801))] false (.ref 7002 0))] [3, 4, 5, 9] [3, 7002] [.ref 3 0, I n_1, slFeat true ((feR x_1 n_1).1), .ref 7002 0] [some (.box [slStroke true x_1.Strokes]), some (bxf6dice d'_2)] [CallOK Try.prog 12 [slU8 false code, .val (.int .u64 801)] (lookO []) false (.ref 7002 0) (lookO [(7002, bxf6dice d'_2)]) ∧ ((slU8 false code : AV) = slU8 false code) ∧ ((.val (.int .u64 801) : AV) = .val (.int .u64 801)) ∧ True] (by kernel_rfl) hB ⟨⟨hc2, rfl, rfl, trivial⟩, trivial⟩ ?_
    refine ae_then ?_
    refine aw_seq ?_
    obtain ⟨v_3, d'_3, hx3_0, hx3_1, hc3⟩ := below_ok d'_2 300 (by assumption) (by omega)
    obtain ⟨v_4, d'_4, hx4_0, hx4_1, hc4⟩ := below_ok d'_3 300 (by assumption) (by omega)
    obtain ⟨v_5, c_5, hx5_0, hc5⟩ := MoveInk_ok x_1 v_3 v_4
    refine aw_reg [(2, .lend [(7002, bxf6dice d'_2, bxf6dice d'_3)] [] [(true, .ref 7002 0), (true, I 300)] true (I v_3)), (4, .lend [(7002, bxf6dice d'_3, bxf6dice d'_4)] [] [(true, .ref 7002 0), (true, I 300)] true (I v_4)), (5, .call [(false, .agg [slStroke false x_1.Strokes]), (true, I v_3), (true, I v_4)] true (.tup [.agg [slStroke true v_5.Strokes], I c_5])), (9, .new 10)] [3, 4, 5, 10, 11] [3, 10] [.ref 3 0, I n_1, slFeat true ((feR x_1 n_1).1), .ref 10 0, I c_5] [some (.box [slStroke true x_1.Strokes]), some (.box [slStroke true v_5.Strokes])] [CallOK Try.prog 14 [.ref 7002 0, I 300] (lookO [(7002, bxf6dice d'_2)]) true (I v_3) (lookO [(7002, bxf6dice d'_3)]) ∧ ((.ref 7002 0 : AV) = .ref 7002 0) ∧ ((I 300 : AV) = I 300) ∧ (((bxf6dice d'_2 : Ob) = bxf6dice d'_2 ∨ obLe noOb true (bxf6dice d'_2) (bxf6dice d'_2)) ∧ taggedO false (bxf6dice d'_2)) ∧ True, CallOK Try.prog 14 [.ref 7002 0, I 300] (lookO [(7002, bxf6dice d'_3)]) true (I v_4) (lookO [(7002, bxf6dice d'_4)]) ∧ ((.ref 7002 0 : AV) = .ref 7002 0) ∧ ((I 300 : AV) = I 300) ∧ (((bxf6dice d'_3 : Ob) = bxf6dice d'_3 ∨ obLe noOb true (bxf6dice d'_3) (bxf6dice d'_3)) ∧ taggedO false (bxf6dice d'_3)) ∧ True, Con Try.prog 13 [.agg [slStroke false x_1.Strokes], I v_3, I v_4] true (.tup [.agg [slStroke true v_5.Strokes], I c_5]) ∧ (((false = true → true = true) ∧ 1 = 1 ∧ x_1.Strokes.length = x_1.Strokes.length ∧ ∀ i, i < x_1.Strokes.length → (fStroke true x_1.Strokes) i = (fStroke false x_1.Strokes) i ∨ (AV.idsL ((fStroke false x_1.Strokes) i) = [] ∧ leL (fun _ => none) false ((fStroke true x_1.Strokes) i) ((fStroke false x_1.Strokes) i))) ∧ ([] : List AV) = []) ∧ ((I v_3 : AV) = I v_3) ∧ ((I v_4 : AV) = I v_4) ∧ True] (by kernel_rfl) hB ⟨⟨hc3, rfl, rfl, ⟨.inl rfl, (by simp [taggedO, taggedL, tagged, tagU8])⟩, trivial⟩, ⟨hc4, rfl, rfl, ⟨.inl rfl, (by simp [taggedO, taggedL, tagged, tagU8])⟩, trivial⟩, ⟨hc5, ⟨⟨(fun h => by cases h), rfl, rfl, fun i _ => .inr ⟨idsStroke _ _, leStroke _ _ _⟩⟩, rfl⟩, rfl, rfl, trivial⟩, trivial⟩ ?_
    refine ae_then ?_
    refine aw_seq ?_
    refine aw_seq ?_
    refine aw_reg [(1, .call [(false, slFeat false ((feR x_1 n_1).1))] true (Bv true)), (11, .dec false)] [4, 5, 10, 11, 73] [10] [I n_1, slFeat true ((feR x_1 n_1).1), .ref 10 0, I c_5, Bv false] [some (.box [slStroke true v_5.Strokes])] [Con Try.prog 15 [slFeat false ((feR x_1 n_1).1)] true (Bv true) ∧ ((false = true → true = true) ∧ 3 = 3 ∧ (((feR x_1 n_1).1).length) = (((feR x_1 n_1).1).length) ∧ ∀ i, i < (((feR x_1 n_1).1).length) → (fFeat ((feR x_1 n_1).1)) i = (fFeat ((feR x_1 n_1).1)) i ∨ (AV.idsL ((fFeat ((feR x_1 n_1).1)) i) = [] ∧ leL (fun _ => none) false ((fFeat ((feR x_1 n_1).1)) i) ((fFeat ((feR x_1 n_1).1)) i))) ∧ True, inR .i64 (n_1 * (x_1.Strokes.length : Int)), ¬ (((((feR x_1 n_1).1).length) : Int) ≠ (n_1 * (x_1.Strokes.length : Int)))] (by kernel_rfl) hB ⟨⟨(con_bool hfv.1 (ValidFeats_ok ((feR x_1 n_1).1))), ⟨(fun h => by cases h), rfl, rfl, fun i _ => .inl rfl⟩, trivial⟩, (inR_i64 (by omega) (by omega)), (fun hq => hq hfv.2), trivial⟩ ?_
    refine ae_then ?_
    refine aw_false rfl ?_
    refine aw_skip ?_
    refine ae_then ?_
    refine aw_seq ?_
    refine aw_seq ?_
    by_cases h3 : c_5 = 0
    ·have hmv := hx5_0 h3
     have hfm := fe_mv h2 hmv.1 hmv.2.2
     refine aw_reg [(1, .dec false)] [4, 5, 10, 75] [10] [I n_1, slFeat true ((feR x_1 n_1).1), .ref 10 0, Bv false] [some (.box [slStroke true v_5.Strokes])] [¬ (c_5 ≠ 0)] (by kernel_rfl) hB ⟨(fun hq => hq h3), trivial⟩ ?_
     refine ae_then ?_
     refine aw_false rfl ?_
     refine aw_skip ?_
     refine ae_then ?_
     refine aw_seq ?_
     refine aw_reg [(2, .call [(false, .agg [slStroke false v_5.Strokes]), (true, I n_1)] true (.tup [slFeat true ((feR v_5 n_1).1), I ((feR v_5 n_1).2)]))] [5, 12, 13] [] [slFeat true ((feR x_1 n_1).1), slFeat true ((feR v_5 n_1).1), I ((feR v_5 n_1).2)] [] [Con Try.prog 9 [.agg [slStroke false v_5.Strokes], I n_1] true (.tup [slFeat true ((feR v_5 n_1).1), I ((feR v_5 n_1).2)]) ∧ (((false = true → true = true) ∧ 1 = 1 ∧ v_5.Strokes.length = v_5.Strokes.length ∧ ∀ i, i < v_5.Strokes.length → (fStroke true v_5.Strokes) i = (fStroke false v_5.Strokes) i ∨ (AV.idsL ((fStroke false v_5.Strokes) i) = [] ∧ leL (fun _ => none) false ((fStroke true v_5.Strokes) i) ((fStroke false v_5.Strokes) i))) ∧ ([] : List AV) = []) ∧ ((I n_1 : AV) = I n_1) ∧ True] (by kernel_rfl) hB ⟨⟨(implFeatsOf_ok v_5 n_1), ⟨⟨(fun h => by cases h), rfl, rfl, fun i _ => .inr ⟨idsStroke _ _, leStroke _ _ _⟩⟩, rfl⟩, rfl, trivial⟩, trivial⟩ ?_
     refine ae_then ?_
     refine aw_seq ?_
     refine aw_reg [(1, .dec true), (5, .call [(false, slFeat false ((feR v_5 n_1).1)), (false, slFeat false ((feR x_1 n_1).1))] true (Bv (sameL ((feR v_5 n_1).1) ((feR x_1 n_1).1))))] [2] [] [Bv (sameL ((feR v_5 n_1).1) ((feR x_1 n_1).1))] [] [((feR v_5 n_1).2) = 0, Con Try.prog 11 [slFeat false ((feR v_5 n_1).1), slFeat false ((feR x_1 n_1).1)] true (Bv (sameL ((feR v_5 n_1).1) ((feR x_1 n_1).1))) ∧ ((false = true → true = true) ∧ 3 = 3 ∧ (((feR v_5 n_1).1).length) = (((feR v_5 n_1).1).length) ∧ ∀ i, i < (((feR v_5 n_1).1).length) → (fFeat ((feR v_5 n_1).1)) i = (fFeat ((feR v_5 n_1).1)) i ∨ (AV.idsL ((fFeat ((feR v_5 n_1).1)) i) = [] ∧ leL (fun _ => none) false ((fFeat ((feR v_5 n_1).1)) i) ((fFeat ((feR v_5 n_1).1)) i))) ∧ ((false = true → true = true) ∧ 3 = 3 ∧ (((feR x_1 n_1).1).length) = (((feR x_1 n_1).1).length) ∧ ∀ i, i < (((feR x_1 n_1).1).length) → (fFeat ((feR x_1 n_1).1)) i = (fFeat ((feR x_1 n_1).1)) i ∨ (AV.idsL ((fFeat ((feR x_1 n_1).1)) i) = [] ∧ leL (fun _ => none) false ((fFeat ((feR x_1 n_1).1)) i) ((fFeat ((feR x_1 n_1).1)) i))) ∧ True] (by kernel_rfl) hB ⟨(by rw [hfm]; exact h2), ⟨(specSameFeats_ok ((feR v_5 n_1).1) ((feR x_1 n_1).1)), ⟨(fun h => by cases h), rfl, rfl, fun i _ => .inl rfl⟩, ⟨(fun h => by cases h), rfl, rfl, fun i _ => .inl rfl⟩, trivial⟩, trivial⟩ ?_
     refine ae_then ?_
     refine aw_ret ?_
     refine ae_ret hB (Bv (sameL ((feR v_5 n_1).1) ((feR x_1 n_1).1))) (by kernel_rfl) (.inl (by first | rfl | (simp [hfm, sameL_refl]; done))) rfl (fun _ => trivial)
    ·refine aw_reg [(1, .dec true)] [4, 5, 10, 75] [10] [I n_1, slFeat true ((feR x_1 n_1).1), .ref 10 0, Bv true] [some (.box [slStroke true v_5.Strokes])] [c_5 ≠ 0] (by kernel_rfl) hB ⟨h3, trivial⟩ ?_
     refine ae_then ?_
     refine aw_true rfl ?_
     refine aw_seq ?_
     refine aw_reg [] [2] [] [Bv true] [] [] (by kernel_rfl) hB trivial ?_
     refine ae_then ?_
     refine aw_ret ?_
     refine ae_ret_then ?_
     refine ae_ret hB (Bv true) (by kernel_rfl) (.inl rfl) rfl (fun _ => trivial)
   ·refine aw_reg [(1, .dec true)] [0, 3, 4, 5, 49] [3] [slU8 false code, .ref 3 0, I n_1, slFeat true ((feR x_1 n_1).1), Bv true] [some (.box [slStroke true x_1.Strokes])] [((feR x_1 n_1).2) ≠ 0] (by kernel_rfl) hB ⟨h2, trivial⟩ ?_
    refine ae_then ?_
    refine aw_true rfl ?_
    refine aw_seq ?_
    refine aw_reg [] [2] [] [Bv true] [] [] (by kernel_rfl) hB trivial ?_
    refine ae_then ?_
    refine aw_ret ?_
    refine ae_ret_then ?_
    refine ae_ret hB (Bv true) (by kernel_rfl) (.inl rfl) rfl (fun _ => trivial)


/-! ### the row -/

theorem opens_t22 : OpensA Try.prog 22 (cLU8 false) (fun xs => ∀ y ∈ xs, inR .u8 y) :=
  opensA_slice (c := cU8) (sz := 1) Try.underlying22 (by kernel_rfl) (by decide) (fun x => ⟨rfl, by simp [oneA, cU8]⟩) (opensA_int Try.underlying5)

namespace fnFeats
set_option maxRecDepth 100000 in
theorem lifted (os : Os) (started : os.Started) (H : Type) (enc : TypeId × Value → H) :
    ReturnsInHanded {} Try.checked os 3 .any (Rows.fnFeatsSpec.pre6 enc Try.prog Try.f3 Rows.fnFeatsRow.domain false) (Rows.fnFeatsSpec.post enc Try.prog Try.f3 false true false false) := by
  refine returnsInHanded_of_change_shaped (C := Try.checked) Try.own started (by kernel_rfl) Try.func3
    (ChangeSpec.witness6 (enc := enc) (C := Try.checked) false ⟨#[], #[.slice none 0 0], []⟩ 8 (by kernel_rfl) (by kernel_rfl) (by kernel_rfl) (by kernel_rfl)) ?_
  intro W base args ds gs before hval0 hW hcnd hsz hshp _
  have hW' := hW
  obtain ⟨p, q, hA0, hV, rfl, hfz, hnd⟩ := hW
  have hval : ∀ (j : Nat) t v, Try.f3.params[j]? = some t → args[j]? = some v → Value.okWide Try.prog W .any base t v := hval0
  have hA : DataW.TrodAll enc Try.prog W 0 (fun _ => true) true Try.f3.params.toList args.toList ds p := hA0
  rw [Try.params3] at hA hval
  obtain ⟨v0, vs0, d0, ds0, p0, q0, hargs, rfl, rfl, h0, r0⟩ := trodAll_cons hA
  obtain ⟨rfl, rfl, rfl⟩ := trodAll_nil r0
  obtain rfl : args = #[v0] := args_eq hargs
  obtain ⟨rfl, rfl⟩ := trodVars_none hV
  obtain ⟨fuel0, hf0⟩ := h0
  obtain ⟨A0, l0, c0, rfl⟩ := okWide_slice Try.underlying22 (hval 0 22 v0 rfl rfl)
  obtain ⟨x0, rx0, ok0⟩ := (opens_t22) enc W 0 _ _ _ _ _ hf0
  refine (walk_of0 (fnFeats_con x0 ok0) (fun w _ => WX_free w) (RelTL.cons (relTL_one rx0) RelTL.nil)).mono fun e W1 ⟨he, hb⟩ => ?_
  subst he
  exact ⟨_, rfl, law_post Try.laidOut rfl Try.underlying4 (of_decide_eq_true (by kernel_rfl)) rfl hW' hb rfl⟩

theorem over : Rows.fnFeatsRow.holds Try.pinned (OpenSpec.ofChange Rows.fnFeatsSpec) :=
  OpenClaim.holds_of_wide 3 Try.f3 rfl rfl rfl rfl rfl rfl rfl ⟨rfl, rfl, rfl, rfl, rfl⟩ rfl rfl rfl rfl rfl (by kernel_rfl) Try.func3 (by kernel_rfl)
    (of_decide_eq_true (by kernel_rfl)) (by unfold Func.isWrapper; first | (rw [if_pos (by decide +kernel)]; kernel_rfl) | (rw [if_neg (by decide +kernel)]; exact ⟨rfl, rfl⟩))
    (fun os started H enc _ => lifted os started H enc)

theorem proved : Rows.FnFeatsSaid :=
  over
#print axioms proved
end fnFeats
end Go.Proofs.Ytebcbkejkpjeoaa.Ax
