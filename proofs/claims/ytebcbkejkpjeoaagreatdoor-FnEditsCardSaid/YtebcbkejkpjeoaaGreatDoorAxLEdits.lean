/- The statement FnEdits: contracts of what it reaches, and its proof. No conditions. -/
import Derived.Test.YtebcbkejkpjeoaaGreatDoorAxLEdits4
import Derived.LaidMore
import Derived.Lay
import Derived.OpenShut
import Derived.SevenTiedAt
import Derived.Shelf.Strings.SlTrimAscii
import Derived.Stop.Joined
namespace Go.Proofs.YtebcbkejkpjeoaaGreatDoor.Ax
open Go.RowKit Go.ChangeShapes Go.WideShapes
set_option linter.unusedVariables false
set_option linter.unusedSimpArgs false


-- laws.FnEdits
theorem fnEdits_con (code : List Int) (ok_code : ∀ y ∈ code, inR .u8 y) : Con Tryz.prog 4 [slU8 false code] true (Bv true) := by
  refine fn_ok (fn := Tryz.f4) (nt := 144) Tryz.func4 rfl rfl rfl rfl (by simp [taggedL, tagged, tagU8]) fun B hB => ?_
  refine aw_lens (x := slU8 false code) 0 rfl (fun len_code => ?_)
  simp [LenOK, LenL, cU8, fU8, slU8] at len_code
  refine aw_seq ?_
  refine aw_reg [] [0] [] [slU8 false code] [] [] (by kernel_rfl) hB trivial ?_
  refine ae_then ?_
  refine aw_seq ?_
  refine aw_seq ?_
  rcases Bool.eq_false_or_eq_true (decide (4096 < (code.length : Int))) with h1 | h1
  ·refine aw_reg [(1, .call [(true, slU8 false code)] true (Bv true))] [0, 27] [] [slU8 false code, Bv true] [] [Con Tryz.prog 5 [slU8 false code] true (Bv true) ∧ ((slU8 false code : AV) = slU8 false code) ∧ True] (by kernel_rfl) hB ⟨⟨(con_bool h1 (f6big_ok code)), rfl, trivial⟩, trivial⟩ ?_
   refine ae_then ?_
   refine aw_true rfl ?_
   refine aw_seq ?_
   refine aw_reg [] [2] [] [Bv true] [] [] (by kernel_rfl) hB trivial ?_
   refine ae_then ?_
   refine aw_ret ?_
   refine ae_ret_then ?_
   refine ae_ret hB (Bv true) (by kernel_rfl) (.inl rfl) rfl (fun _ => trivial)
  ·have hc : (∀ j, j < code.length → 0 ≤ at_ code j ∧ at_ code j ≤ 255) ∧ code.length ≤ 4611686018427387904 := ⟨fun j hj => ok_code _ (at_mem hj), by first | omega | (simp at h1; omega)⟩
   refine aw_reg [(1, .call [(true, slU8 false code)] true (Bv false))] [0, 27] [] [slU8 false code, Bv false] [] [Con Tryz.prog 5 [slU8 false code] true (Bv false) ∧ ((slU8 false code : AV) = slU8 false code) ∧ True] (by kernel_rfl) hB ⟨⟨(con_bool h1 (f6big_ok code)), rfl, trivial⟩, trivial⟩ ?_
   refine ae_then ?_
   refine aw_false rfl ?_
   refine aw_skip ?_
   refine ae_then ?_
   refine aw_seq ?_
   obtain ⟨l_1, e_1, v_1, hx1_0, hx1_1, hc1⟩ := DrawApplyEdit_ok code (by assumption)
   refine aw_reg [(1, .call [(true, slU8 false code)] true (.tup [agCellRow l_1, agEdit e_1, Sv v_1])), (6, .new 3), (7, .new 4)] [0, 3, 4, 5] [3, 4] [slU8 false code, .ref 3 0, .ref 4 0, Sv v_1] [some (bxCellRow l_1), some (bxEdit e_1)] [Con Tryz.prog 22 [slU8 false code] true (.tup [agCellRow l_1, agEdit e_1, Sv v_1]) ∧ ((slU8 false code : AV) = slU8 false code) ∧ True] (by kernel_rfl) hB ⟨⟨hc1, rfl, trivial⟩, trivial⟩ ?_
   refine ae_then ?_
   refine aw_seq ?_
   refine aw_reg [(3, .call [(true, agCellRow l_1), (true, agEdit e_1), (true, Sv v_1)] true (.tup [agCellRow (applyRow l_1 e_1 v_1), I (chkI l_1 e_1 v_1)])), (7, .new 6)] [0, 3, 4, 5, 6, 7] [3, 4, 6] [slU8 false code, .ref 3 0, .ref 4 0, Sv v_1, .ref 6 0, I (chkI l_1 e_1 v_1)] [some (bxCellRow l_1), some (bxEdit e_1), some (bxCellRow (applyRow l_1 e_1 v_1))] [Con Tryz.prog 23 [agCellRow l_1, agEdit e_1, Sv v_1] true (.tup [agCellRow (applyRow l_1 e_1 v_1), I (chkI l_1 e_1 v_1)]) ∧ ((agCellRow l_1 : AV) = agCellRow l_1) ∧ ((agEdit e_1 : AV) = agEdit e_1) ∧ ((Sv v_1 : AV) = Sv v_1) ∧ True] (by kernel_rfl) hB ⟨⟨(implApplyEdit_ok l_1 e_1 v_1 (by omega) (by omega)), rfl, rfl, rfl, trivial⟩, trivial⟩ ?_
   refine ae_then ?_
   refine aw_seq ?_
   refine aw_reg [(3, .call [(true, agCellRow l_1), (true, agEdit e_1), (true, Sv v_1)] true (.tup [agCellRow (applyRow l_1 e_1 v_1), I (chkI l_1 e_1 v_1)])), (7, .new 8)] [0, 3, 4, 5, 6, 7, 8, 9] [3, 4, 6, 8] [slU8 false code, .ref 3 0, .ref 4 0, Sv v_1, .ref 6 0, I (chkI l_1 e_1 v_1), .ref 8 0, I (chkI l_1 e_1 v_1)] [some (bxCellRow l_1), some (bxEdit e_1), some (bxCellRow (applyRow l_1 e_1 v_1)), some (bxCellRow (applyRow l_1 e_1 v_1))] [Con Tryz.prog 24 [agCellRow l_1, agEdit e_1, Sv v_1] true (.tup [agCellRow (applyRow l_1 e_1 v_1), I (chkI l_1 e_1 v_1)]) ∧ ((agCellRow l_1 : AV) = agCellRow l_1) ∧ ((agEdit e_1 : AV) = agEdit e_1) ∧ ((Sv v_1 : AV) = Sv v_1) ∧ True] (by kernel_rfl) hB ⟨⟨(specApplyEdit_ok l_1 e_1 v_1 (by omega) (by omega)), rfl, rfl, rfl, trivial⟩, trivial⟩ ?_
   refine ae_then ?_
   refine aw_seq ?_
   refine aw_reg [(3, .call [(true, agCellRow l_1), (true, agEdit e_1), (true, Sv v_1)] true (.tup [agEdit (invE l_1 e_1 v_1), Sv (invT l_1 e_1 v_1), I (chkI l_1 e_1 v_1)])), (8, .new 10)] [0, 3, 4, 5, 6, 7, 8, 9, 10, 11, 12] [3, 4, 6, 8, 10] [slU8 false code, .ref 3 0, .ref 4 0, Sv v_1, .ref 6 0, I (chkI l_1 e_1 v_1), .ref 8 0, I (chkI l_1 e_1 v_1), .ref 10 0, Sv (invT l_1 e_1 v_1), I (chkI l_1 e_1 v_1)] [some (bxCellRow l_1), some (bxEdit e_1), some (bxCellRow (applyRow l_1 e_1 v_1)), some (bxCellRow (applyRow l_1 e_1 v_1)), some (bxEdit (invE l_1 e_1 v_1))] [Con Tryz.prog 25 [agCellRow l_1, agEdit e_1, Sv v_1] true (.tup [agEdit (invE l_1 e_1 v_1), Sv (invT l_1 e_1 v_1), I (chkI l_1 e_1 v_1)]) ∧ ((agCellRow l_1 : AV) = agCellRow l_1) ∧ ((agEdit e_1 : AV) = agEdit e_1) ∧ ((Sv v_1 : AV) = Sv v_1) ∧ True] (by kernel_rfl) hB ⟨⟨(implInverseEdit_ok l_1 e_1 v_1 (by omega) (by omega)), rfl, rfl, rfl, trivial⟩, trivial⟩ ?_
   refine ae_then ?_
   refine aw_seq ?_
   refine aw_reg [(3, .call [(true, agCellRow l_1), (true, agEdit e_1), (true, Sv v_1)] true (.tup [agEdit (invE l_1 e_1 v_1), Sv (invT l_1 e_1 v_1), I (chkI l_1 e_1 v_1)])), (8, .new 13)] [0, 3, 6, 7, 8, 9, 10, 11, 12, 13, 14, 15] [3, 6, 8, 10, 13] [slU8 false code, .ref 3 0, .ref 6 0, I (chkI l_1 e_1 v_1), .ref 8 0, I (chkI l_1 e_1 v_1), .ref 10 0, Sv (invT l_1 e_1 v_1), I (chkI l_1 e_1 v_1), .ref 13 0, Sv (invT l_1 e_1 v_1), I (chkI l_1 e_1 v_1)] [some (bxCellRow l_1), some (bxCellRow (applyRow l_1 e_1 v_1)), some (bxCellRow (applyRow l_1 e_1 v_1)), some (bxEdit (invE l_1 e_1 v_1)), some (bxEdit (invE l_1 e_1 v_1))] [Con Tryz.prog 26 [agCellRow l_1, agEdit e_1, Sv v_1] true (.tup [agEdit (invE l_1 e_1 v_1), Sv (invT l_1 e_1 v_1), I (chkI l_1 e_1 v_1)]) ∧ ((agCellRow l_1 : AV) = agCellRow l_1) ∧ ((agEdit e_1 : AV) = agEdit e_1) ∧ ((Sv v_1 : AV) = Sv v_1) ∧ True] (by kernel_rfl) hB ⟨⟨(specInverseEdit_ok l_1 e_1 v_1 (by omega) (by omega)), rfl, rfl, rfl, trivial⟩, trivial⟩ ?_
   refine ae_then ?_
   refine aw_seq ?_
   obtain ⟨l_2, v_2, hx2_0, hc2⟩ := DrawEditOf_ok code (by assumption)
   refine aw_reg [(1, .call [(true, slU8 false code)] true (.tup [agCellRow l_2, .agg [slPoint true v_2.Points]])), (5, .new 16), (6, .new 17)] [3, 6, 7, 8, 9, 10, 11, 12, 13, 14, 15, 16, 17] [3, 6, 8, 10, 13, 16, 17] [.ref 3 0, .ref 6 0, I (chkI l_1 e_1 v_1), .ref 8 0, I (chkI l_1 e_1 v_1), .ref 10 0, Sv (invT l_1 e_1 v_1), I (chkI l_1 e_1 v_1), .ref 13 0, Sv (invT l_1 e_1 v_1), I (chkI l_1 e_1 v_1), .ref 16 0, .ref 17 0] [some (bxCellRow l_1), some (bxCellRow (applyRow l_1 e_1 v_1)), some (bxCellRow (applyRow l_1 e_1 v_1)), some (bxEdit (invE l_1 e_1 v_1)), some (bxEdit (invE l_1 e_1 v_1)), some (bxCellRow l_2), some (.box [slPoint true v_2.Points])] [Con Tryz.prog 27 [slU8 false code] true (.tup [agCellRow l_2, .agg [slPoint true v_2.Points]]) ∧ ((slU8 false code : AV) = slU8 false code) ∧ True] (by kernel_rfl) hB ⟨⟨hc2, rfl, trivial⟩, trivial⟩ ?_
   refine ae_then ?_
   refine aw_seq ?_
   refine aw_reg [(2, .call [(true, agCellRow l_2), (false, .agg [slPoint false v_2.Points])] true (.tup [agEdit ((editOfR l_2 v_2).1), I ((editOfR l_2 v_2).2)])), (6, .new 18)] [3, 6, 7, 8, 9, 10, 11, 12, 13, 14, 15, 16, 17, 18, 19] [3, 6, 8, 10, 13, 16, 17, 18] [.ref 3 0, .ref 6 0, I (chkI l_1 e_1 v_1), .ref 8 0, I (chkI l_1 e_1 v_1), .ref 10 0, Sv (invT l_1 e_1 v_1), I (chkI l_1 e_1 v_1), .ref 13 0, Sv (invT l_1 e_1 v_1), I (chkI l_1 e_1 v_1), .ref 16 0, .ref 17 0, .ref 18 0, I ((editOfR l_2 v_2).2)] [some (bxCellRow l_1), some (bxCellRow (applyRow l_1 e_1 v_1)), some (bxCellRow (applyRow l_1 e_1 v_1)), some (bxEdit (invE l_1 e_1 v_1)), some (bxEdit (invE l_1 e_1 v_1)), some (bxCellRow l_2), some (.box [slPoint true v_2.Points]), some (bxEdit ((editOfR l_2 v_2).1))] [Con Tryz.prog 28 [agCellRow l_2, .agg [slPoint false v_2.Points]] true (.tup [agEdit ((editOfR l_2 v_2).1), I ((editOfR l_2 v_2).2)]) ∧ ((agCellRow l_2 : AV) = agCellRow l_2) ∧ (((false = true → true = true) ∧ 3 = 3 ∧ v_2.Points.length = v_2.Points.length ∧ ∀ i, i < v_2.Points.length → (fPoint v_2.Points) i = (fPoint v_2.Points) i ∨ (AV.idsL ((fPoint v_2.Points) i) = [] ∧ leL (fun _ => none) false ((fPoint v_2.Points) i) ((fPoint v_2.Points) i))) ∧ ([] : List AV) = []) ∧ True] (by kernel_rfl) hB ⟨⟨(implEditOf_ok l_2 v_2 (by omega)), rfl, ⟨⟨(fun h => by cases h), rfl, rfl, fun i _ => .inl rfl⟩, rfl⟩, trivial⟩, trivial⟩ ?_
   refine ae_then ?_
   refine aw_seq ?_
   refine aw_reg [(2, .call [(true, agCellRow l_2), (false, .agg [slPoint false v_2.Points])] true (.tup [agEdit ((editOfR l_2 v_2).1), I ((editOfR l_2 v_2).2)])), (6, .new 20)] [3, 6, 7, 8, 9, 10, 11, 12, 13, 14, 15, 16, 18, 19, 20, 21] [3, 6, 8, 10, 13, 16, 18, 20] [.ref 3 0, .ref 6 0, I (chkI l_1 e_1 v_1), .ref 8 0, I (chkI l_1 e_1 v_1), .ref 10 0, Sv (invT l_1 e_1 v_1), I (chkI l_1 e_1 v_1), .ref 13 0, Sv (invT l_1 e_1 v_1), I (chkI l_1 e_1 v_1), .ref 16 0, .ref 18 0, I ((editOfR l_2 v_2).2), .ref 20 0, I ((editOfR l_2 v_2).2)] [some (bxCellRow l_1), some (bxCellRow (applyRow l_1 e_1 v_1)), some (bxCellRow (applyRow l_1 e_1 v_1)), some (bxEdit (invE l_1 e_1 v_1)), some (bxEdit (invE l_1 e_1 v_1)), some (bxCellRow l_2), some (bxEdit ((editOfR l_2 v_2).1)), some (bxEdit ((editOfR l_2 v_2).1))] [Con Tryz.prog 29 [agCellRow l_2, .agg [slPoint false v_2.Points]] true (.tup [agEdit ((editOfR l_2 v_2).1), I ((editOfR l_2 v_2).2)]) ∧ ((agCellRow l_2 : AV) = agCellRow l_2) ∧ (((false = true → true = true) ∧ 3 = 3 ∧ v_2.Points.length = v_2.Points.length ∧ ∀ i, i < v_2.Points.length → (fPoint v_2.Points) i = (fPoint v_2.Points) i ∨ (AV.idsL ((fPoint v_2.Points) i) = [] ∧ leL (fun _ => none) false ((fPoint v_2.Points) i) ((fPoint v_2.Points) i))) ∧ ([] : List AV) = []) ∧ True] (by kernel_rfl) hB ⟨⟨(specEditOf_ok l_2 v_2 (by omega)), rfl, ⟨⟨(fun h => by cases h), rfl, rfl, fun i _ => .inl rfl⟩, rfl⟩, trivial⟩, trivial⟩ ?_
   refine ae_then ?_
   refine aw_seq ?_
   refine aw_seq ?_
   refine aw_reg [(2, .dec false), (6, .dec false), (11, .dec false), (16, .dec false), (21, .dec false), (26, .dec false), (31, .dec false)] [3, 6, 7, 10, 11, 12, 16, 18, 19, 113] [3, 6, 10, 16, 18] [.ref 3 0, .ref 6 0, I (chkI l_1 e_1 v_1), .ref 10 0, Sv (invT l_1 e_1 v_1), I (chkI l_1 e_1 v_1), .ref 16 0, .ref 18 0, I ((editOfR l_2 v_2).2), Bv false] [some (bxCellRow l_1), some (bxCellRow (applyRow l_1 e_1 v_1)), some (bxEdit (invE l_1 e_1 v_1)), some (bxCellRow l_2), some (bxEdit ((editOfR l_2 v_2).1))] [¬ ((chkI l_1 e_1 v_1) ≠ (chkI l_1 e_1 v_1)), ¬ (¬ (((applyRow l_1 e_1 v_1).Text) = ((applyRow l_1 e_1 v_1).Text) ∧ ((applyRow l_1 e_1 v_1).X) = ((applyRow l_1 e_1 v_1).X) ∧ ((applyRow l_1 e_1 v_1).Y) = ((applyRow l_1 e_1 v_1).Y) ∧ ((applyRow l_1 e_1 v_1).Cell) = ((applyRow l_1 e_1 v_1).Cell) ∧ True)), ¬ ((chkI l_1 e_1 v_1) ≠ (chkI l_1 e_1 v_1)), ¬ (¬ (((invE l_1 e_1 v_1).Kind) = ((invE l_1 e_1 v_1).Kind) ∧ ((invE l_1 e_1 v_1).From) = ((invE l_1 e_1 v_1).From) ∧ ((invE l_1 e_1 v_1).To) = ((invE l_1 e_1 v_1).To) ∧ True)), ¬ ((invT l_1 e_1 v_1) ≠ (invT l_1 e_1 v_1)), ¬ (((editOfR l_2 v_2).2) ≠ ((editOfR l_2 v_2).2)), ¬ (¬ ((((editOfR l_2 v_2).1).Kind) = (((editOfR l_2 v_2).1).Kind) ∧ (((editOfR l_2 v_2).1).From) = (((editOfR l_2 v_2).1).From) ∧ (((editOfR l_2 v_2).1).To) = (((editOfR l_2 v_2).1).To) ∧ True))] (by kernel_rfl) hB ⟨(fun hq => hq rfl), (fun hq => hq ⟨rfl, rfl, rfl, rfl, trivial⟩), (fun hq => hq rfl), (fun hq => hq ⟨rfl, rfl, rfl, trivial⟩), (fun hq => hq rfl), (fun hq => hq rfl), (fun hq => hq ⟨rfl, rfl, rfl, trivial⟩), trivial⟩ ?_
   refine ae_then ?_
   refine aw_false rfl ?_
   refine aw_skip ?_
   refine ae_then ?_
   refine aw_seq ?_
   refine aw_seq ?_
   by_cases h2 : ((editOfR l_2 v_2).2) = 0
   ·have heo := edit_ok h2
    have he0 : (⟨#[]⟩ : ByteArray).size = 0 := rfl
    refine aw_reg [(1, .dec true)] [3, 6, 7, 10, 11, 12, 16, 18, 115] [3, 6, 10, 16, 18] [.ref 3 0, .ref 6 0, I (chkI l_1 e_1 v_1), .ref 10 0, Sv (invT l_1 e_1 v_1), I (chkI l_1 e_1 v_1), .ref 16 0, .ref 18 0, Bv true] [some (bxCellRow l_1), some (bxCellRow (applyRow l_1 e_1 v_1)), some (bxEdit (invE l_1 e_1 v_1)), some (bxCellRow l_2), some (bxEdit ((editOfR l_2 v_2).1))] [((editOfR l_2 v_2).2) = 0] (by kernel_rfl) hB ⟨h2, trivial⟩ ?_
    refine ae_then ?_
    refine aw_true rfl ?_
    refine aw_seq ?_
    refine aw_reg [(2, .call [(true, agCellRow l_2), (true, agEdit ((editOfR l_2 v_2).1)), (true, Sv (⟨#[]⟩ : ByteArray))] true (.tup [agCellRow (applyRow l_2 ((editOfR l_2 v_2).1) (⟨#[]⟩ : ByteArray)), I (chkI l_2 ((editOfR l_2 v_2).1) (⟨#[]⟩ : ByteArray))])), (6, .new 22)] [3, 6, 7, 10, 11, 12, 23] [3, 6, 10] [.ref 3 0, .ref 6 0, I (chkI l_1 e_1 v_1), .ref 10 0, Sv (invT l_1 e_1 v_1), I (chkI l_1 e_1 v_1), I (chkI l_2 ((editOfR l_2 v_2).1) (⟨#[]⟩ : ByteArray))] [some (bxCellRow l_1), some (bxCellRow (applyRow l_1 e_1 v_1)), some (bxEdit (invE l_1 e_1 v_1))] [Con Tryz.prog 23 [agCellRow l_2, agEdit ((editOfR l_2 v_2).1), Sv (⟨#[]⟩ : ByteArray)] true (.tup [agCellRow (applyRow l_2 ((editOfR l_2 v_2).1) (⟨#[]⟩ : ByteArray)), I (chkI l_2 ((editOfR l_2 v_2).1) (⟨#[]⟩ : ByteArray))]) ∧ ((agCellRow l_2 : AV) = agCellRow l_2) ∧ ((agEdit ((editOfR l_2 v_2).1) : AV) = agEdit ((editOfR l_2 v_2).1)) ∧ ((Sv (⟨#[]⟩ : ByteArray) : AV) = Sv (⟨#[]⟩ : ByteArray)) ∧ True] (by kernel_rfl) hB ⟨⟨(implApplyEdit_ok l_2 ((editOfR l_2 v_2).1) (⟨#[]⟩ : ByteArray) (by omega) (by omega)), rfl, rfl, rfl, trivial⟩, trivial⟩ ?_
    refine ae_then ?_
    refine aw_seq ?_
    refine aw_reg [(1, .dec false)] [3, 6, 7, 10, 11, 12, 123] [3, 6, 10] [.ref 3 0, .ref 6 0, I (chkI l_1 e_1 v_1), .ref 10 0, Sv (invT l_1 e_1 v_1), I (chkI l_1 e_1 v_1), Bv false] [some (bxCellRow l_1), some (bxCellRow (applyRow l_1 e_1 v_1)), some (bxEdit (invE l_1 e_1 v_1))] [¬ ((chkI l_2 ((editOfR l_2 v_2).1) (⟨#[]⟩ : ByteArray)) ≠ 0)] (by kernel_rfl) hB ⟨(fun hq => hq heo), trivial⟩ ?_
    refine ae_then ?_
    refine aw_false rfl ?_
    refine aw_skip ?_
    refine ae_then ?_
    refine aw_seq ?_
    refine aw_seq ?_
    by_cases h3 : (chkI l_1 e_1 v_1) = 0
    ·have hbk := edit_back2 h3
     have hck := chk_ok h3
     have hsz1 := row_size h3
     have hsz2 := inv_size h3
     refine aw_reg [(1, .dec false)] [3, 6, 10, 11, 12, 125] [3, 6, 10] [.ref 3 0, .ref 6 0, .ref 10 0, Sv (invT l_1 e_1 v_1), I (chkI l_1 e_1 v_1), Bv false] [some (bxCellRow l_1), some (bxCellRow (applyRow l_1 e_1 v_1)), some (bxEdit (invE l_1 e_1 v_1))] [¬ ((chkI l_1 e_1 v_1) ≠ 0)] (by kernel_rfl) hB ⟨(fun hq => hq h3), trivial⟩ ?_
     refine ae_then ?_
     refine aw_false rfl ?_
     refine aw_skip ?_
     refine ae_then ?_
     refine aw_seq ?_
     refine aw_reg [(3, .call [(true, agCellRow (applyRow l_1 e_1 v_1)), (true, agEdit (invE l_1 e_1 v_1)), (true, Sv (invT l_1 e_1 v_1))] true (.tup [agCellRow (applyRow (applyRow l_1 e_1 v_1) (invE l_1 e_1 v_1) (invT l_1 e_1 v_1)), I (chkI (applyRow l_1 e_1 v_1) (invE l_1 e_1 v_1) (invT l_1 e_1 v_1))])), (7, .new 24)] [3, 12, 24, 25] [3, 24] [.ref 3 0, I (chkI l_1 e_1 v_1), .ref 24 0, I (chkI (applyRow l_1 e_1 v_1) (invE l_1 e_1 v_1) (invT l_1 e_1 v_1))] [some (bxCellRow l_1), some (bxCellRow (applyRow (applyRow l_1 e_1 v_1) (invE l_1 e_1 v_1) (invT l_1 e_1 v_1)))] [Con Tryz.prog 23 [agCellRow (applyRow l_1 e_1 v_1), agEdit (invE l_1 e_1 v_1), Sv (invT l_1 e_1 v_1)] true (.tup [agCellRow (applyRow (applyRow l_1 e_1 v_1) (invE l_1 e_1 v_1) (invT l_1 e_1 v_1)), I (chkI (applyRow l_1 e_1 v_1) (invE l_1 e_1 v_1) (invT l_1 e_1 v_1))]) ∧ ((agCellRow (applyRow l_1 e_1 v_1) : AV) = agCellRow (applyRow l_1 e_1 v_1)) ∧ ((agEdit (invE l_1 e_1 v_1) : AV) = agEdit (invE l_1 e_1 v_1)) ∧ ((Sv (invT l_1 e_1 v_1) : AV) = Sv (invT l_1 e_1 v_1)) ∧ True] (by kernel_rfl) hB ⟨⟨(implApplyEdit_ok (applyRow l_1 e_1 v_1) (invE l_1 e_1 v_1) (invT l_1 e_1 v_1) (by omega) (by omega)), rfl, rfl, rfl, trivial⟩, trivial⟩ ?_
     refine ae_then ?_
     refine aw_seq ?_
     refine aw_reg [(1, .dec true), (4, .dec true), (9, .dec true)] [2] [] [Bv true] [] [(chkI l_1 e_1 v_1) = 0, (chkI (applyRow l_1 e_1 v_1) (invE l_1 e_1 v_1) (invT l_1 e_1 v_1)) = 0, ((applyRow (applyRow l_1 e_1 v_1) (invE l_1 e_1 v_1) (invT l_1 e_1 v_1)).Text) = l_1.Text ∧ ((applyRow (applyRow l_1 e_1 v_1) (invE l_1 e_1 v_1) (invT l_1 e_1 v_1)).X) = l_1.X ∧ ((applyRow (applyRow l_1 e_1 v_1) (invE l_1 e_1 v_1) (invT l_1 e_1 v_1)).Y) = l_1.Y ∧ ((applyRow (applyRow l_1 e_1 v_1) (invE l_1 e_1 v_1) (invT l_1 e_1 v_1)).Cell) = l_1.Cell ∧ True] (by kernel_rfl) hB ⟨h3, hbk.1, (by rw [hbk.2]; exact ⟨rfl, rfl, rfl, rfl, trivial⟩), trivial⟩ ?_
     refine ae_then ?_
     refine aw_ret ?_
     refine ae_ret hB (Bv true) (by kernel_rfl) (.inl rfl) rfl (fun _ => trivial)
    ·refine aw_reg [(1, .dec true)] [3, 6, 10, 11, 12, 125] [3, 6, 10] [.ref 3 0, .ref 6 0, .ref 10 0, Sv (invT l_1 e_1 v_1), I (chkI l_1 e_1 v_1), Bv true] [some (bxCellRow l_1), some (bxCellRow (applyRow l_1 e_1 v_1)), some (bxEdit (invE l_1 e_1 v_1))] [(chkI l_1 e_1 v_1) ≠ 0] (by kernel_rfl) hB ⟨h3, trivial⟩ ?_
     refine ae_then ?_
     refine aw_true rfl ?_
     refine aw_seq ?_
     refine aw_reg [] [2] [] [Bv true] [] [] (by kernel_rfl) hB trivial ?_
     refine ae_then ?_
     refine aw_ret ?_
     refine ae_ret_then ?_
     refine ae_ret hB (Bv true) (by kernel_rfl) (.inl rfl) rfl (fun _ => trivial)
   ·refine aw_reg [(1, .dec false)] [3, 6, 7, 10, 11, 12, 16, 18, 115] [3, 6, 10, 16, 18] [.ref 3 0, .ref 6 0, I (chkI l_1 e_1 v_1), .ref 10 0, Sv (invT l_1 e_1 v_1), I (chkI l_1 e_1 v_1), .ref 16 0, .ref 18 0, Bv false] [some (bxCellRow l_1), some (bxCellRow (applyRow l_1 e_1 v_1)), some (bxEdit (invE l_1 e_1 v_1)), some (bxCellRow l_2), some (bxEdit ((editOfR l_2 v_2).1))] [¬ (((editOfR l_2 v_2).2) = 0)] (by kernel_rfl) hB ⟨h2, trivial⟩ ?_
    refine ae_then ?_
    refine aw_false rfl ?_
    refine aw_skip ?_
    refine ae_then ?_
    refine aw_seq ?_
    refine aw_seq ?_
    by_cases h4 : (chkI l_1 e_1 v_1) = 0
    ·have hbk := edit_back2 h4
     have hck := chk_ok h4
     have hsz1 := row_size h4
     have hsz2 := inv_size h4
     refine aw_reg [(1, .dec false)] [3, 6, 10, 11, 12, 125] [3, 6, 10] [.ref 3 0, .ref 6 0, .ref 10 0, Sv (invT l_1 e_1 v_1), I (chkI l_1 e_1 v_1), Bv false] [some (bxCellRow l_1), some (bxCellRow (applyRow l_1 e_1 v_1)), some (bxEdit (invE l_1 e_1 v_1))] [¬ ((chkI l_1 e_1 v_1) ≠ 0)] (by kernel_rfl) hB ⟨(fun hq => hq h4), trivial⟩ ?_
     refine ae_then ?_
     refine aw_false rfl ?_
     refine aw_skip ?_
     refine ae_then ?_
     refine aw_seq ?_
     refine aw_reg [(3, .call [(true, agCellRow (applyRow l_1 e_1 v_1)), (true, agEdit (invE l_1 e_1 v_1)), (true, Sv (invT l_1 e_1 v_1))] true (.tup [agCellRow (applyRow (applyRow l_1 e_1 v_1) (invE l_1 e_1 v_1) (invT l_1 e_1 v_1)), I (chkI (applyRow l_1 e_1 v_1) (invE l_1 e_1 v_1) (invT l_1 e_1 v_1))])), (7, .new 24)] [3, 12, 24, 25] [3, 24] [.ref 3 0, I (chkI l_1 e_1 v_1), .ref 24 0, I (chkI (applyRow l_1 e_1 v_1) (invE l_1 e_1 v_1) (invT l_1 e_1 v_1))] [some (bxCellRow l_1), some (bxCellRow (applyRow (applyRow l_1 e_1 v_1) (invE l_1 e_1 v_1) (invT l_1 e_1 v_1)))] [Con Tryz.prog 23 [agCellRow (applyRow l_1 e_1 v_1), agEdit (invE l_1 e_1 v_1), Sv (invT l_1 e_1 v_1)] true (.tup [agCellRow (applyRow (applyRow l_1 e_1 v_1) (invE l_1 e_1 v_1) (invT l_1 e_1 v_1)), I (chkI (applyRow l_1 e_1 v_1) (invE l_1 e_1 v_1) (invT l_1 e_1 v_1))]) ∧ ((agCellRow (applyRow l_1 e_1 v_1) : AV) = agCellRow (applyRow l_1 e_1 v_1)) ∧ ((agEdit (invE l_1 e_1 v_1) : AV) = agEdit (invE l_1 e_1 v_1)) ∧ ((Sv (invT l_1 e_1 v_1) : AV) = Sv (invT l_1 e_1 v_1)) ∧ True] (by kernel_rfl) hB ⟨⟨(implApplyEdit_ok (applyRow l_1 e_1 v_1) (invE l_1 e_1 v_1) (invT l_1 e_1 v_1) (by omega) (by omega)), rfl, rfl, rfl, trivial⟩, trivial⟩ ?_
     refine ae_then ?_
     refine aw_seq ?_
     refine aw_reg [(1, .dec true), (4, .dec true), (9, .dec true)] [2] [] [Bv true] [] [(chkI l_1 e_1 v_1) = 0, (chkI (applyRow l_1 e_1 v_1) (invE l_1 e_1 v_1) (invT l_1 e_1 v_1)) = 0, ((applyRow (applyRow l_1 e_1 v_1) (invE l_1 e_1 v_1) (invT l_1 e_1 v_1)).Text) = l_1.Text ∧ ((applyRow (applyRow l_1 e_1 v_1) (invE l_1 e_1 v_1) (invT l_1 e_1 v_1)).X) = l_1.X ∧ ((applyRow (applyRow l_1 e_1 v_1) (invE l_1 e_1 v_1) (invT l_1 e_1 v_1)).Y) = l_1.Y ∧ ((applyRow (applyRow l_1 e_1 v_1) (invE l_1 e_1 v_1) (invT l_1 e_1 v_1)).Cell) = l_1.Cell ∧ True] (by kernel_rfl) hB ⟨h4, hbk.1, (by rw [hbk.2]; exact ⟨rfl, rfl, rfl, rfl, trivial⟩), trivial⟩ ?_
     refine ae_then ?_
     refine aw_ret ?_
     refine ae_ret hB (Bv true) (by kernel_rfl) (.inl rfl) rfl (fun _ => trivial)
    ·refine aw_reg [(1, .dec true)] [3, 6, 10, 11, 12, 125] [3, 6, 10] [.ref 3 0, .ref 6 0, .ref 10 0, Sv (invT l_1 e_1 v_1), I (chkI l_1 e_1 v_1), Bv true] [some (bxCellRow l_1), some (bxCellRow (applyRow l_1 e_1 v_1)), some (bxEdit (invE l_1 e_1 v_1))] [(chkI l_1 e_1 v_1) ≠ 0] (by kernel_rfl) hB ⟨h4, trivial⟩ ?_
     refine ae_then ?_
     refine aw_true rfl ?_
     refine aw_seq ?_
     refine aw_reg [] [2] [] [Bv true] [] [] (by kernel_rfl) hB trivial ?_
     refine ae_then ?_
     refine aw_ret ?_
     refine ae_ret_then ?_
     refine ae_ret hB (Bv true) (by kernel_rfl) (.inl rfl) rfl (fun _ => trivial)


/-! ### the row -/

theorem opens_t22 : OpensA Tryz.prog 22 (cLU8 false) (fun xs => ∀ y ∈ xs, inR .u8 y) :=
  opensA_slice (c := cU8) (sz := 1) Tryz.underlying22 (by kernel_rfl) (by decide) (fun x => ⟨rfl, by simp [oneA, cU8]⟩) (opensA_int Tryz.underlying5)

namespace fnEdits
set_option maxRecDepth 100000 in
theorem lifted (os : Os) (started : os.Started) (H : Type) (enc : TypeId × Value → H) :
    ReturnsInHanded {} Tryz.checked os 4 .any (fun w args => (Rows.fnEditsSpec.pre enc Tryz.prog Tryz.f4 Rows.fnEditsRow.domain false w args ∧ laidMetH Tryz.prog Rows.fnEditsRow.laid w) ∧ sizedMet enc Tryz.prog Tryz.f4 (OpenSpec.ofChange Rows.fnEditsSpec) false w args)
      (Rows.fnEditsSpec.post enc Tryz.prog Tryz.f4 false true false false) := by
  refine returnsInHanded_of_change_and (C := Tryz.checked) (X := fun w _ => laidMetH Tryz.prog Rows.fnEditsRow.laid w) (fun _ _ _ hh h => h.of_heap hh) Tryz.own started (by kernel_rfl) Tryz.func4
    (ChangeSpec.witness_shaped (enc := enc) (C := Tryz.checked) (os := os) (X := fun w _ => laidMetH Tryz.prog Rows.fnEditsRow.laid w) false (World.laidAll Tryz.prog os Rows.fnEditsRow.laid) #[.slice none 0 0] 8 (World.laidAll_os _ _ _)
      (World.shaped_of_ZipB (by kernel_rfl) (by kernel_rfl)) (by kernel_rfl) (by kernel_rfl) (by kernel_rfl)
      (by rw [MakeChecks.laidMetH_plain _ _ _ (by kernel_rfl)]; exact laidMet_laidAll _ (by kernel_rfl) (by kernel_rfl))) ?_
  intro W base args ds gs before hval0 hW hcnd hsz hL _
  have hW' := hW
  obtain ⟨p, q, hA0, hV, rfl, hfz, hnd⟩ := hW
  have hval : ∀ (j : Nat) t v, Tryz.f4.params[j]? = some t → args[j]? = some v → Value.okWide Tryz.prog W .any base t v := hval0
  have hA : DataW.TrodAll enc Tryz.prog W 0 (fun _ => true) true Tryz.f4.params.toList args.toList ds p := hA0
  rw [Tryz.params4] at hA hval
  obtain ⟨v0, vs0, d0, ds0, p0, q0, hargs, rfl, rfl, h0, r0⟩ := trodAll_cons hA
  obtain ⟨rfl, rfl, rfl⟩ := trodAll_nil r0
  obtain rfl : args = #[v0] := args_eq hargs
  obtain ⟨rfl, rfl⟩ := trodVars_none hV
  obtain ⟨fuel0, hf0⟩ := h0
  obtain ⟨A0, l0, c0, rfl⟩ := okWide_slice Tryz.underlying22 (hval 0 22 v0 rfl rfl)
  obtain ⟨x0, rx0, ok0⟩ := (opens_t22) enc W 0 _ _ _ _ _ hf0
  refine (walk_of0 (fnEdits_con x0 ok0) (fun w _ => WX_free w) (RelTL.cons (relTL_one rx0) RelTL.nil)).mono fun e W1 ⟨he, hb⟩ => ?_
  subst he
  exact ⟨_, rfl, law_post Tryz.laidOut rfl Tryz.underlying4 (of_decide_eq_true (by kernel_rfl)) rfl hW' hb rfl⟩

theorem over : Rows.fnEditsRow.holds Tryz.pinned (OpenSpec.ofChange Rows.fnEditsSpec) :=
  OpenClaim.holds_of_wide 4 Tryz.f4 rfl rfl rfl rfl rfl rfl rfl ⟨rfl, rfl, rfl, rfl, rfl⟩ rfl rfl rfl rfl rfl (by kernel_rfl) Tryz.func4 (by kernel_rfl)
    (of_decide_eq_true (by kernel_rfl)) (by unfold Func.isWrapper; first | (rw [if_pos (by decide +kernel)]; kernel_rfl) | (rw [if_neg (by decide +kernel)]; exact ⟨rfl, rfl⟩))
    (fun os started H enc _ => lifted os started H enc)

theorem proved : Rows.FnEditsCardSaid :=
  Claim7.holds_tied_plain_at .later [] [.data, .pinned] true (true, "b9bd33f494e9a51198a3b03feb3e48ed423639fc2108cf0e88b89cbd7982b181") false over (fun _ h => by cases h) (by kernel_rfl) (fun _ h => by cases h) fnEdits_row_tie rfl ⟨rfl, rfl⟩ (by kernel_rfl) rfl
    (fun f fn hf hfn => by
      obtain rfl : f = 4 := Option.some.inj ((show Tryz.prog.funcNamed "loop.example/g00918/laws.FnEdits" = some 4 by kernel_rfl).symm.trans hf) |>.symm
      obtain rfl : fn = Tryz.f4 := (Option.some.inj (Tryz.func4.symm.trans hfn)).symm
      exact ⟨by kernel_rfl, fun j t ht => by
        rw [Tryz.params4] at ht
        have hm : t ∈ [22] := by simpa using Array.mem_of_getElem? ht
        have hall : ([22].all fun u => !Tryz.prog.wantsStandIn u) = true := by kernel_rfl
        exact (show Tryz.prog.wantsStandIn t = false by simpa using List.all_eq_true.1 hall t hm)⟩)
    (by kernel_rfl)
#print axioms proved
end fnEdits
end Go.Proofs.YtebcbkejkpjeoaaGreatDoor.Ax
