/- Contracts that the statement FnSymbolTexts reaches, part 2. No conditions. -/
import Derived.Test.YtlkfodajddkomaaGreatDoorAxLSymbolTexts1
import Derived.LaidMore
import Derived.Lay
import Derived.Lib.IndexBytes
import Derived.Lib.ItoaNum
import Derived.Lib.ParseIntBCases
import Derived.Lib.ParseIntBTie
import Derived.Lib.SplitLaws
import Derived.OpenShut
import Derived.SevenTiedAt
import Derived.Stop.Joined
import Derived.Test.YtlkfodajddkomaaGreatDoorAxBd
import Derived.Test.YtlkfodajddkomaaGreatDoorAxR
import Derived.Test.YtlkfodajddkomaaGreatDoorAxY
namespace Go.Proofs.YtlkfodajddkomaaGreatDoor.Ax
open Go.RowKit Go.ChangeShapes Go.WideShapes
set_option linter.unusedVariables false
set_option linter.unusedSimpArgs false


-- spec.l20Relation
theorem l20Relation_ok (a : Box) (b : Box) (ha : okBx a = true) (hb : okBx b = true) : Con Tryz.prog 29 [agBox a, agBox b] true (I (relI a b)) := by
  have hp1 := okBx_iff.1 ha
  have hp2 := okBx_iff.1 hb
  refine fn_ok (fn := Tryz.f29) (nt := 77) Tryz.func29 rfl rfl rfl rfl (by simp [taggedL, tagged]) fun B hB => ?_
  refine aR [(0, .new 2), (1, .new 3)] [2, 3] [2, 3] [.ref 2 0, .ref 3 0] [some (bxBox a), some (bxBox b)] [] hB trivial ?_
  refine aw_seq ?_
  refine aw_seq ?_
  by_cases h1 : a.X1 = b.X1 ∧ a.Y1 = b.Y1 ∧ a.X2 = b.X2 ∧ a.Y2 = b.Y2 ∧ True
  ·have hab : a.X1 = b.X1 ∧ a.Y1 = b.Y1 ∧ a.X2 = b.X2 ∧ a.Y2 = b.Y2 := ⟨h1.1, h1.2.1, h1.2.2.1, h1.2.2.2.1⟩
   refine aw_r [(2, .dec false)] [2, 3, 35] [2, 3] [.ref 2 0, .ref 3 0, Bv false] [some (bxBox a), some (bxBox b)] [¬ (¬ (a.X1 = b.X1 ∧ a.Y1 = b.Y1 ∧ a.X2 = b.X2 ∧ a.Y2 = b.Y2 ∧ True))] hB ⟨(fun hq => hq h1), trivial⟩ ?_
   refine ae_then ?_
   refine aw_false rfl ?_
   refine aw_skip ?_
   refine ae_then ?_
   refine aw_seq ?_
   refine aw_seq ?_
   by_cases h2 : (a.X1 + a.X2) ≤ (2 * b.X1)
   ·refine aw_r [(8, .dec true)] [2, 3, 44] [2, 3] [.ref 2 0, .ref 3 0, Bv true] [some (bxBox a), some (bxBox b)] [inR .i64 (2 * b.X1), inR .i64 (a.X1 + a.X2), (a.X1 + a.X2) ≤ (2 * b.X1)] hB ⟨(inR_i64 (by omega) (by omega)), (inR_i64 (by omega) (by omega)), h2, trivial⟩ ?_
    refine ae_then ?_
    refine aw_true rfl ?_
    refine aw_seq ?_
    refine aw_block ?_
    refine aw_seq ?_
    by_cases h3 : (2 * b.Y2) ≤ (a.Y1 + a.Y2)
    ·refine aw_r [(8, .dec true)] [2, 3, 45] [2, 3] [.ref 2 0, .ref 3 0, Bv true] [some (bxBox a), some (bxBox b)] [inR .i64 (2 * b.Y2), inR .i64 (a.Y1 + a.Y2), (2 * b.Y2) ≤ (a.Y1 + a.Y2)] hB ⟨(inR_i64 (by omega) (by omega)), (inR_i64 (by omega) (by omega)), h3, trivial⟩ ?_
     refine ae_then ?_
     refine aw_true rfl ?_
     refine aR [] [4] [] [I 4] [] [] hB trivial ?_
     refine aw_ret ?_
     refine ae_ret_block (ae_ret_then (ae_ret_then ?_))
     refine ae_ret hB (I 4) (by kernel_rfl) (.inl (by refine congrArg I ?_; unfold relI; (repeat' split) <;> first | rfl | omega)) rfl (fun _ => trivial)
    refine aw_r [(8, .dec false)] [2, 3, 45] [2, 3] [.ref 2 0, .ref 3 0, Bv false] [some (bxBox a), some (bxBox b)] [inR .i64 (2 * b.Y2), inR .i64 (a.Y1 + a.Y2), ¬ ((2 * b.Y2) ≤ (a.Y1 + a.Y2))] hB ⟨(inR_i64 (by omega) (by omega)), (inR_i64 (by omega) (by omega)), h3, trivial⟩ ?_
    refine ae_then ?_
    refine aw_false rfl ?_
    refine aw_seq ?_
    by_cases h4 : (a.Y1 + a.Y2) ≤ (2 * b.Y1)
    ·refine aw_r [(8, .dec true)] [55] [] [Bv true] [] [inR .i64 (2 * b.Y1), inR .i64 (a.Y1 + a.Y2), (a.Y1 + a.Y2) ≤ (2 * b.Y1)] hB ⟨(inR_i64 (by omega) (by omega)), (inR_i64 (by omega) (by omega)), h4, trivial⟩ ?_
     refine ae_then ?_
     refine aw_true rfl ?_
     refine aR [] [4] [] [I 5] [] [] hB trivial ?_
     refine aw_ret ?_
     refine ae_ret_block (ae_ret_then (ae_ret_then ?_))
     refine ae_ret hB (I 5) (by kernel_rfl) (.inl (by refine congrArg I ?_; unfold relI; (repeat' split) <;> first | rfl | omega)) rfl (fun _ => trivial)
    refine aw_r [(8, .dec false)] [55] [] [Bv false] [] [inR .i64 (2 * b.Y1), inR .i64 (a.Y1 + a.Y2), ¬ ((a.Y1 + a.Y2) ≤ (2 * b.Y1))] hB ⟨(inR_i64 (by omega) (by omega)), (inR_i64 (by omega) (by omega)), h4, trivial⟩ ?_
    refine ae_then ?_
    refine aw_false rfl ?_
    refine aw_skip ?_
    refine ae_block 0 ?_
    refine ae_then ?_
    refine aR [] [4] [] [I 1] [] [] hB trivial ?_
    refine aw_ret ?_
    refine ae_ret_then ?_
    refine ae_ret hB (I 1) (by kernel_rfl) (.inl (by refine congrArg I ?_; unfold relI; (repeat' split) <;> first | rfl | omega)) rfl (fun _ => trivial)
   refine aw_r [(8, .dec false)] [2, 3, 44] [2, 3] [.ref 2 0, .ref 3 0, Bv false] [some (bxBox a), some (bxBox b)] [inR .i64 (2 * b.X1), inR .i64 (a.X1 + a.X2), ¬ ((a.X1 + a.X2) ≤ (2 * b.X1))] hB ⟨(inR_i64 (by omega) (by omega)), (inR_i64 (by omega) (by omega)), h2, trivial⟩ ?_
   refine ae_then ?_
   refine aw_false rfl ?_
   refine aw_skip ?_
   refine ae_then ?_
   refine aw_seq ?_
   refine aw_block ?_
   refine aw_seq ?_
   by_cases h5 : b.Y2 ≤ a.Y1
   ·refine aw_r [(4, .dec true)] [2, 3, 65] [2, 3] [.ref 2 0, .ref 3 0, Bv true] [some (bxBox a), some (bxBox b)] [b.Y2 ≤ a.Y1] hB ⟨h5, trivial⟩ ?_
    refine ae_then ?_
    refine aw_true rfl ?_
    refine aR [] [4] [] [I 2] [] [] hB trivial ?_
    refine aw_ret ?_
    refine ae_ret_block (ae_ret_then ?_)
    refine ae_ret hB (I 2) (by kernel_rfl) (.inl (by refine congrArg I ?_; unfold relI; (repeat' split) <;> first | rfl | omega)) rfl (fun _ => trivial)
   refine aw_r [(4, .dec false)] [2, 3, 65] [2, 3] [.ref 2 0, .ref 3 0, Bv false] [some (bxBox a), some (bxBox b)] [¬ (b.Y2 ≤ a.Y1)] hB ⟨h5, trivial⟩ ?_
   refine ae_then ?_
   refine aw_false rfl ?_
   refine aw_seq ?_
   by_cases h6 : a.Y2 ≤ b.Y1
   ·refine aw_r [(4, .dec true)] [71] [] [Bv true] [] [a.Y2 ≤ b.Y1] hB ⟨h6, trivial⟩ ?_
    refine ae_then ?_
    refine aw_true rfl ?_
    refine aR [] [4] [] [I 3] [] [] hB trivial ?_
    refine aw_ret ?_
    refine ae_ret_block (ae_ret_then ?_)
    refine ae_ret hB (I 3) (by kernel_rfl) (.inl (by refine congrArg I ?_; unfold relI; (repeat' split) <;> first | rfl | omega)) rfl (fun _ => trivial)
   refine aw_r [(4, .dec false)] [71] [] [Bv false] [] [¬ (a.Y2 ≤ b.Y1)] hB ⟨h6, trivial⟩ ?_
   refine ae_then ?_
   refine aw_false rfl ?_
   refine aw_skip ?_
   refine ae_block 1 ?_
   refine ae_then ?_
   refine aR [] [4] [] [I 0] [] [] hB trivial ?_
   refine aw_ret ?_
   refine ae_ret hB (I 0) (by kernel_rfl) (.inl (by refine congrArg I ?_; unfold relI; (repeat' split) <;> first | rfl | omega)) rfl (fun _ => trivial)
  have hab : ¬ (a.X1 = b.X1 ∧ a.Y1 = b.Y1 ∧ a.X2 = b.X2 ∧ a.Y2 = b.Y2) := fun q => h1 ⟨q.1, q.2.1, q.2.2.1, q.2.2.2, trivial⟩
  by_cases h7 : a.X1 ≤ b.X1
  ·by_cases h8 : a.Y1 ≤ b.Y1
   ·by_cases h9 : b.X2 ≤ a.X2
    ·by_cases h10 : b.Y2 ≤ a.Y2
     ·refine aw_r [(2, .dec true), (8, .dec true), (15, .dec true), (22, .dec true), (29, .dec true)] [2, 3, 35] [2, 3] [.ref 2 0, .ref 3 0, Bv true] [some (bxBox a), some (bxBox b)] [¬ (a.X1 = b.X1 ∧ a.Y1 = b.Y1 ∧ a.X2 = b.X2 ∧ a.Y2 = b.Y2 ∧ True), a.X1 ≤ b.X1, a.Y1 ≤ b.Y1, b.X2 ≤ a.X2, b.Y2 ≤ a.Y2] hB ⟨h1, h7, h8, h9, h10, trivial⟩ ?_
      refine ae_then ?_
      refine aw_true rfl ?_
      refine aR [] [4] [] [I 6] [] [] hB trivial ?_
      refine aw_ret ?_
      refine ae_ret_then ?_
      refine ae_ret hB (I 6) (by kernel_rfl) (.inl (by refine congrArg I ?_; unfold relI; (repeat' split) <;> first | rfl | omega)) rfl (fun _ => trivial)
     refine aw_r [(2, .dec true), (8, .dec true), (15, .dec true), (22, .dec true), (29, .dec false)] [2, 3, 35] [2, 3] [.ref 2 0, .ref 3 0, Bv false] [some (bxBox a), some (bxBox b)] [¬ (a.X1 = b.X1 ∧ a.Y1 = b.Y1 ∧ a.X2 = b.X2 ∧ a.Y2 = b.Y2 ∧ True), a.X1 ≤ b.X1, a.Y1 ≤ b.Y1, b.X2 ≤ a.X2, ¬ (b.Y2 ≤ a.Y2)] hB ⟨h1, h7, h8, h9, h10, trivial⟩ ?_
     refine ae_then ?_
     refine aw_false rfl ?_
     refine aw_skip ?_
     refine ae_then ?_
     refine aw_seq ?_
     refine aw_seq ?_
     by_cases h11 : (a.X1 + a.X2) ≤ (2 * b.X1)
     ·refine aw_r [(8, .dec true)] [2, 3, 44] [2, 3] [.ref 2 0, .ref 3 0, Bv true] [some (bxBox a), some (bxBox b)] [inR .i64 (2 * b.X1), inR .i64 (a.X1 + a.X2), (a.X1 + a.X2) ≤ (2 * b.X1)] hB ⟨(inR_i64 (by omega) (by omega)), (inR_i64 (by omega) (by omega)), h11, trivial⟩ ?_
      refine ae_then ?_
      refine aw_true rfl ?_
      refine aw_seq ?_
      refine aw_block ?_
      refine aw_seq ?_
      by_cases h12 : (2 * b.Y2) ≤ (a.Y1 + a.Y2)
      ·refine aw_r [(8, .dec true)] [2, 3, 45] [2, 3] [.ref 2 0, .ref 3 0, Bv true] [some (bxBox a), some (bxBox b)] [inR .i64 (2 * b.Y2), inR .i64 (a.Y1 + a.Y2), (2 * b.Y2) ≤ (a.Y1 + a.Y2)] hB ⟨(inR_i64 (by omega) (by omega)), (inR_i64 (by omega) (by omega)), h12, trivial⟩ ?_
       refine ae_then ?_
       refine aw_true rfl ?_
       refine aR [] [4] [] [I 4] [] [] hB trivial ?_
       refine aw_ret ?_
       refine ae_ret_block (ae_ret_then (ae_ret_then ?_))
       refine ae_ret hB (I 4) (by kernel_rfl) (.inl (by refine congrArg I ?_; unfold relI; (repeat' split) <;> first | rfl | omega)) rfl (fun _ => trivial)
      refine aw_r [(8, .dec false)] [2, 3, 45] [2, 3] [.ref 2 0, .ref 3 0, Bv false] [some (bxBox a), some (bxBox b)] [inR .i64 (2 * b.Y2), inR .i64 (a.Y1 + a.Y2), ¬ ((2 * b.Y2) ≤ (a.Y1 + a.Y2))] hB ⟨(inR_i64 (by omega) (by omega)), (inR_i64 (by omega) (by omega)), h12, trivial⟩ ?_
      refine ae_then ?_
      refine aw_false rfl ?_
      refine aw_seq ?_
      by_cases h13 : (a.Y1 + a.Y2) ≤ (2 * b.Y1)
      ·refine aw_r [(8, .dec true)] [55] [] [Bv true] [] [inR .i64 (2 * b.Y1), inR .i64 (a.Y1 + a.Y2), (a.Y1 + a.Y2) ≤ (2 * b.Y1)] hB ⟨(inR_i64 (by omega) (by omega)), (inR_i64 (by omega) (by omega)), h13, trivial⟩ ?_
       refine ae_then ?_
       refine aw_true rfl ?_
       refine aR [] [4] [] [I 5] [] [] hB trivial ?_
       refine aw_ret ?_
       refine ae_ret_block (ae_ret_then (ae_ret_then ?_))
       refine ae_ret hB (I 5) (by kernel_rfl) (.inl (by refine congrArg I ?_; unfold relI; (repeat' split) <;> first | rfl | omega)) rfl (fun _ => trivial)
      refine aw_r [(8, .dec false)] [55] [] [Bv false] [] [inR .i64 (2 * b.Y1), inR .i64 (a.Y1 + a.Y2), ¬ ((a.Y1 + a.Y2) ≤ (2 * b.Y1))] hB ⟨(inR_i64 (by omega) (by omega)), (inR_i64 (by omega) (by omega)), h13, trivial⟩ ?_
      refine ae_then ?_
      refine aw_false rfl ?_
      refine aw_skip ?_
      refine ae_block 0 ?_
      refine ae_then ?_
      refine aR [] [4] [] [I 1] [] [] hB trivial ?_
      refine aw_ret ?_
      refine ae_ret_then ?_
      refine ae_ret hB (I 1) (by kernel_rfl) (.inl (by refine congrArg I ?_; unfold relI; (repeat' split) <;> first | rfl | omega)) rfl (fun _ => trivial)
     refine aw_r [(8, .dec false)] [2, 3, 44] [2, 3] [.ref 2 0, .ref 3 0, Bv false] [some (bxBox a), some (bxBox b)] [inR .i64 (2 * b.X1), inR .i64 (a.X1 + a.X2), ¬ ((a.X1 + a.X2) ≤ (2 * b.X1))] hB ⟨(inR_i64 (by omega) (by omega)), (inR_i64 (by omega) (by omega)), h11, trivial⟩ ?_
     refine ae_then ?_
     refine aw_false rfl ?_
     refine aw_skip ?_
     refine ae_then ?_
     refine aw_seq ?_
     refine aw_block ?_
     refine aw_seq ?_
     by_cases h14 : b.Y2 ≤ a.Y1
     ·refine aw_r [(4, .dec true)] [2, 3, 65] [2, 3] [.ref 2 0, .ref 3 0, Bv true] [some (bxBox a), some (bxBox b)] [b.Y2 ≤ a.Y1] hB ⟨h14, trivial⟩ ?_
      refine ae_then ?_
      refine aw_true rfl ?_
      refine aR [] [4] [] [I 2] [] [] hB trivial ?_
      refine aw_ret ?_
      refine ae_ret_block (ae_ret_then ?_)
      refine ae_ret hB (I 2) (by kernel_rfl) (.inl (by refine congrArg I ?_; unfold relI; (repeat' split) <;> first | rfl | omega)) rfl (fun _ => trivial)
     refine aw_r [(4, .dec false)] [2, 3, 65] [2, 3] [.ref 2 0, .ref 3 0, Bv false] [some (bxBox a), some (bxBox b)] [¬ (b.Y2 ≤ a.Y1)] hB ⟨h14, trivial⟩ ?_
     refine ae_then ?_
     refine aw_false rfl ?_
     refine aw_seq ?_
     by_cases h15 : a.Y2 ≤ b.Y1
     ·refine aw_r [(4, .dec true)] [71] [] [Bv true] [] [a.Y2 ≤ b.Y1] hB ⟨h15, trivial⟩ ?_
      refine ae_then ?_
      refine aw_true rfl ?_
      refine aR [] [4] [] [I 3] [] [] hB trivial ?_
      refine aw_ret ?_
      refine ae_ret_block (ae_ret_then ?_)
      refine ae_ret hB (I 3) (by kernel_rfl) (.inl (by refine congrArg I ?_; unfold relI; (repeat' split) <;> first | rfl | omega)) rfl (fun _ => trivial)
     refine aw_r [(4, .dec false)] [71] [] [Bv false] [] [¬ (a.Y2 ≤ b.Y1)] hB ⟨h15, trivial⟩ ?_
     refine ae_then ?_
     refine aw_false rfl ?_
     refine aw_skip ?_
     refine ae_block 1 ?_
     refine ae_then ?_
     refine aR [] [4] [] [I 0] [] [] hB trivial ?_
     refine aw_ret ?_
     refine ae_ret hB (I 0) (by kernel_rfl) (.inl (by refine congrArg I ?_; unfold relI; (repeat' split) <;> first | rfl | omega)) rfl (fun _ => trivial)
    refine aw_r [(2, .dec true), (8, .dec true), (15, .dec true), (22, .dec false)] [2, 3, 35] [2, 3] [.ref 2 0, .ref 3 0, Bv false] [some (bxBox a), some (bxBox b)] [¬ (a.X1 = b.X1 ∧ a.Y1 = b.Y1 ∧ a.X2 = b.X2 ∧ a.Y2 = b.Y2 ∧ True), a.X1 ≤ b.X1, a.Y1 ≤ b.Y1, ¬ (b.X2 ≤ a.X2)] hB ⟨h1, h7, h8, h9, trivial⟩ ?_
    refine ae_then ?_
    refine aw_false rfl ?_
    refine aw_skip ?_
    refine ae_then ?_
    refine aw_seq ?_
    refine aw_seq ?_
    by_cases h16 : (a.X1 + a.X2) ≤ (2 * b.X1)
    ·refine aw_r [(8, .dec true)] [2, 3, 44] [2, 3] [.ref 2 0, .ref 3 0, Bv true] [some (bxBox a), some (bxBox b)] [inR .i64 (2 * b.X1), inR .i64 (a.X1 + a.X2), (a.X1 + a.X2) ≤ (2 * b.X1)] hB ⟨(inR_i64 (by omega) (by omega)), (inR_i64 (by omega) (by omega)), h16, trivial⟩ ?_
     refine ae_then ?_
     refine aw_true rfl ?_
     refine aw_seq ?_
     refine aw_block ?_
     refine aw_seq ?_
     by_cases h17 : (2 * b.Y2) ≤ (a.Y1 + a.Y2)
     ·refine aw_r [(8, .dec true)] [2, 3, 45] [2, 3] [.ref 2 0, .ref 3 0, Bv true] [some (bxBox a), some (bxBox b)] [inR .i64 (2 * b.Y2), inR .i64 (a.Y1 + a.Y2), (2 * b.Y2) ≤ (a.Y1 + a.Y2)] hB ⟨(inR_i64 (by omega) (by omega)), (inR_i64 (by omega) (by omega)), h17, trivial⟩ ?_
      refine ae_then ?_
      refine aw_true rfl ?_
      refine aR [] [4] [] [I 4] [] [] hB trivial ?_
      refine aw_ret ?_
      refine ae_ret_block (ae_ret_then (ae_ret_then ?_))
      refine ae_ret hB (I 4) (by kernel_rfl) (.inl (by refine congrArg I ?_; unfold relI; (repeat' split) <;> first | rfl | omega)) rfl (fun _ => trivial)
     refine aw_r [(8, .dec false)] [2, 3, 45] [2, 3] [.ref 2 0, .ref 3 0, Bv false] [some (bxBox a), some (bxBox b)] [inR .i64 (2 * b.Y2), inR .i64 (a.Y1 + a.Y2), ¬ ((2 * b.Y2) ≤ (a.Y1 + a.Y2))] hB ⟨(inR_i64 (by omega) (by omega)), (inR_i64 (by omega) (by omega)), h17, trivial⟩ ?_
     refine ae_then ?_
     refine aw_false rfl ?_
     refine aw_seq ?_
     by_cases h18 : (a.Y1 + a.Y2) ≤ (2 * b.Y1)
     ·refine aw_r [(8, .dec true)] [55] [] [Bv true] [] [inR .i64 (2 * b.Y1), inR .i64 (a.Y1 + a.Y2), (a.Y1 + a.Y2) ≤ (2 * b.Y1)] hB ⟨(inR_i64 (by omega) (by omega)), (inR_i64 (by omega) (by omega)), h18, trivial⟩ ?_
      refine ae_then ?_
      refine aw_true rfl ?_
      refine aR [] [4] [] [I 5] [] [] hB trivial ?_
      refine aw_ret ?_
      refine ae_ret_block (ae_ret_then (ae_ret_then ?_))
      refine ae_ret hB (I 5) (by kernel_rfl) (.inl (by refine congrArg I ?_; unfold relI; (repeat' split) <;> first | rfl | omega)) rfl (fun _ => trivial)
     refine aw_r [(8, .dec false)] [55] [] [Bv false] [] [inR .i64 (2 * b.Y1), inR .i64 (a.Y1 + a.Y2), ¬ ((a.Y1 + a.Y2) ≤ (2 * b.Y1))] hB ⟨(inR_i64 (by omega) (by omega)), (inR_i64 (by omega) (by omega)), h18, trivial⟩ ?_
     refine ae_then ?_
     refine aw_false rfl ?_
     refine aw_skip ?_
     refine ae_block 0 ?_
     refine ae_then ?_
     refine aR [] [4] [] [I 1] [] [] hB trivial ?_
     refine aw_ret ?_
     refine ae_ret_then ?_
     refine ae_ret hB (I 1) (by kernel_rfl) (.inl (by refine congrArg I ?_; unfold relI; (repeat' split) <;> first | rfl | omega)) rfl (fun _ => trivial)
    refine aw_r [(8, .dec false)] [2, 3, 44] [2, 3] [.ref 2 0, .ref 3 0, Bv false] [some (bxBox a), some (bxBox b)] [inR .i64 (2 * b.X1), inR .i64 (a.X1 + a.X2), ¬ ((a.X1 + a.X2) ≤ (2 * b.X1))] hB ⟨(inR_i64 (by omega) (by omega)), (inR_i64 (by omega) (by omega)), h16, trivial⟩ ?_
    refine ae_then ?_
    refine aw_false rfl ?_
    refine aw_skip ?_
    refine ae_then ?_
    refine aw_seq ?_
    refine aw_block ?_
    refine aw_seq ?_
    by_cases h19 : b.Y2 ≤ a.Y1
    ·refine aw_r [(4, .dec true)] [2, 3, 65] [2, 3] [.ref 2 0, .ref 3 0, Bv true] [some (bxBox a), some (bxBox b)] [b.Y2 ≤ a.Y1] hB ⟨h19, trivial⟩ ?_
     refine ae_then ?_
     refine aw_true rfl ?_
     refine aR [] [4] [] [I 2] [] [] hB trivial ?_
     refine aw_ret ?_
     refine ae_ret_block (ae_ret_then ?_)
     refine ae_ret hB (I 2) (by kernel_rfl) (.inl (by refine congrArg I ?_; unfold relI; (repeat' split) <;> first | rfl | omega)) rfl (fun _ => trivial)
    refine aw_r [(4, .dec false)] [2, 3, 65] [2, 3] [.ref 2 0, .ref 3 0, Bv false] [some (bxBox a), some (bxBox b)] [¬ (b.Y2 ≤ a.Y1)] hB ⟨h19, trivial⟩ ?_
    refine ae_then ?_
    refine aw_false rfl ?_
    refine aw_seq ?_
    by_cases h20 : a.Y2 ≤ b.Y1
    ·refine aw_r [(4, .dec true)] [71] [] [Bv true] [] [a.Y2 ≤ b.Y1] hB ⟨h20, trivial⟩ ?_
     refine ae_then ?_
     refine aw_true rfl ?_
     refine aR [] [4] [] [I 3] [] [] hB trivial ?_
     refine aw_ret ?_
     refine ae_ret_block (ae_ret_then ?_)
     refine ae_ret hB (I 3) (by kernel_rfl) (.inl (by refine congrArg I ?_; unfold relI; (repeat' split) <;> first | rfl | omega)) rfl (fun _ => trivial)
    refine aw_r [(4, .dec false)] [71] [] [Bv false] [] [¬ (a.Y2 ≤ b.Y1)] hB ⟨h20, trivial⟩ ?_
    refine ae_then ?_
    refine aw_false rfl ?_
    refine aw_skip ?_
    refine ae_block 1 ?_
    refine ae_then ?_
    refine aR [] [4] [] [I 0] [] [] hB trivial ?_
    refine aw_ret ?_
    refine ae_ret hB (I 0) (by kernel_rfl) (.inl (by refine congrArg I ?_; unfold relI; (repeat' split) <;> first | rfl | omega)) rfl (fun _ => trivial)
   refine aw_r [(2, .dec true), (8, .dec true), (15, .dec false)] [2, 3, 35] [2, 3] [.ref 2 0, .ref 3 0, Bv false] [some (bxBox a), some (bxBox b)] [¬ (a.X1 = b.X1 ∧ a.Y1 = b.Y1 ∧ a.X2 = b.X2 ∧ a.Y2 = b.Y2 ∧ True), a.X1 ≤ b.X1, ¬ (a.Y1 ≤ b.Y1)] hB ⟨h1, h7, h8, trivial⟩ ?_
   refine ae_then ?_
   refine aw_false rfl ?_
   refine aw_skip ?_
   refine ae_then ?_
   refine aw_seq ?_
   refine aw_seq ?_
   by_cases h21 : (a.X1 + a.X2) ≤ (2 * b.X1)
   ·refine aw_r [(8, .dec true)] [2, 3, 44] [2, 3] [.ref 2 0, .ref 3 0, Bv true] [some (bxBox a), some (bxBox b)] [inR .i64 (2 * b.X1), inR .i64 (a.X1 + a.X2), (a.X1 + a.X2) ≤ (2 * b.X1)] hB ⟨(inR_i64 (by omega) (by omega)), (inR_i64 (by omega) (by omega)), h21, trivial⟩ ?_
    refine ae_then ?_
    refine aw_true rfl ?_
    refine aw_seq ?_
    refine aw_block ?_
    refine aw_seq ?_
    by_cases h22 : (2 * b.Y2) ≤ (a.Y1 + a.Y2)
    ·refine aw_r [(8, .dec true)] [2, 3, 45] [2, 3] [.ref 2 0, .ref 3 0, Bv true] [some (bxBox a), some (bxBox b)] [inR .i64 (2 * b.Y2), inR .i64 (a.Y1 + a.Y2), (2 * b.Y2) ≤ (a.Y1 + a.Y2)] hB ⟨(inR_i64 (by omega) (by omega)), (inR_i64 (by omega) (by omega)), h22, trivial⟩ ?_
     refine ae_then ?_
     refine aw_true rfl ?_
     refine aR [] [4] [] [I 4] [] [] hB trivial ?_
     refine aw_ret ?_
     refine ae_ret_block (ae_ret_then (ae_ret_then ?_))
     refine ae_ret hB (I 4) (by kernel_rfl) (.inl (by refine congrArg I ?_; unfold relI; (repeat' split) <;> first | rfl | omega)) rfl (fun _ => trivial)
    refine aw_r [(8, .dec false)] [2, 3, 45] [2, 3] [.ref 2 0, .ref 3 0, Bv false] [some (bxBox a), some (bxBox b)] [inR .i64 (2 * b.Y2), inR .i64 (a.Y1 + a.Y2), ¬ ((2 * b.Y2) ≤ (a.Y1 + a.Y2))] hB ⟨(inR_i64 (by omega) (by omega)), (inR_i64 (by omega) (by omega)), h22, trivial⟩ ?_
    refine ae_then ?_
    refine aw_false rfl ?_
    refine aw_seq ?_
    by_cases h23 : (a.Y1 + a.Y2) ≤ (2 * b.Y1)
    ·refine aw_r [(8, .dec true)] [55] [] [Bv true] [] [inR .i64 (2 * b.Y1), inR .i64 (a.Y1 + a.Y2), (a.Y1 + a.Y2) ≤ (2 * b.Y1)] hB ⟨(inR_i64 (by omega) (by omega)), (inR_i64 (by omega) (by omega)), h23, trivial⟩ ?_
     refine ae_then ?_
     refine aw_true rfl ?_
     refine aR [] [4] [] [I 5] [] [] hB trivial ?_
     refine aw_ret ?_
     refine ae_ret_block (ae_ret_then (ae_ret_then ?_))
     refine ae_ret hB (I 5) (by kernel_rfl) (.inl (by refine congrArg I ?_; unfold relI; (repeat' split) <;> first | rfl | omega)) rfl (fun _ => trivial)
    refine aw_r [(8, .dec false)] [55] [] [Bv false] [] [inR .i64 (2 * b.Y1), inR .i64 (a.Y1 + a.Y2), ¬ ((a.Y1 + a.Y2) ≤ (2 * b.Y1))] hB ⟨(inR_i64 (by omega) (by omega)), (inR_i64 (by omega) (by omega)), h23, trivial⟩ ?_
    refine ae_then ?_
    refine aw_false rfl ?_
    refine aw_skip ?_
    refine ae_block 0 ?_
    refine ae_then ?_
    refine aR [] [4] [] [I 1] [] [] hB trivial ?_
    refine aw_ret ?_
    refine ae_ret_then ?_
    refine ae_ret hB (I 1) (by kernel_rfl) (.inl (by refine congrArg I ?_; unfold relI; (repeat' split) <;> first | rfl | omega)) rfl (fun _ => trivial)
   refine aw_r [(8, .dec false)] [2, 3, 44] [2, 3] [.ref 2 0, .ref 3 0, Bv false] [some (bxBox a), some (bxBox b)] [inR .i64 (2 * b.X1), inR .i64 (a.X1 + a.X2), ¬ ((a.X1 + a.X2) ≤ (2 * b.X1))] hB ⟨(inR_i64 (by omega) (by omega)), (inR_i64 (by omega) (by omega)), h21, trivial⟩ ?_
   refine ae_then ?_
   refine aw_false rfl ?_
   refine aw_skip ?_
   refine ae_then ?_
   refine aw_seq ?_
   refine aw_block ?_
   refine aw_seq ?_
   by_cases h24 : b.Y2 ≤ a.Y1
   ·refine aw_r [(4, .dec true)] [2, 3, 65] [2, 3] [.ref 2 0, .ref 3 0, Bv true] [some (bxBox a), some (bxBox b)] [b.Y2 ≤ a.Y1] hB ⟨h24, trivial⟩ ?_
    refine ae_then ?_
    refine aw_true rfl ?_
    refine aR [] [4] [] [I 2] [] [] hB trivial ?_
    refine aw_ret ?_
    refine ae_ret_block (ae_ret_then ?_)
    refine ae_ret hB (I 2) (by kernel_rfl) (.inl (by refine congrArg I ?_; unfold relI; (repeat' split) <;> first | rfl | omega)) rfl (fun _ => trivial)
   refine aw_r [(4, .dec false)] [2, 3, 65] [2, 3] [.ref 2 0, .ref 3 0, Bv false] [some (bxBox a), some (bxBox b)] [¬ (b.Y2 ≤ a.Y1)] hB ⟨h24, trivial⟩ ?_
   refine ae_then ?_
   refine aw_false rfl ?_
   refine aw_seq ?_
   by_cases h25 : a.Y2 ≤ b.Y1
   ·refine aw_r [(4, .dec true)] [71] [] [Bv true] [] [a.Y2 ≤ b.Y1] hB ⟨h25, trivial⟩ ?_
    refine ae_then ?_
    refine aw_true rfl ?_
    refine aR [] [4] [] [I 3] [] [] hB trivial ?_
    refine aw_ret ?_
    refine ae_ret_block (ae_ret_then ?_)
    refine ae_ret hB (I 3) (by kernel_rfl) (.inl (by refine congrArg I ?_; unfold relI; (repeat' split) <;> first | rfl | omega)) rfl (fun _ => trivial)
   refine aw_r [(4, .dec false)] [71] [] [Bv false] [] [¬ (a.Y2 ≤ b.Y1)] hB ⟨h25, trivial⟩ ?_
   refine ae_then ?_
   refine aw_false rfl ?_
   refine aw_skip ?_
   refine ae_block 1 ?_
   refine ae_then ?_
   refine aR [] [4] [] [I 0] [] [] hB trivial ?_
   refine aw_ret ?_
   refine ae_ret hB (I 0) (by kernel_rfl) (.inl (by refine congrArg I ?_; unfold relI; (repeat' split) <;> first | rfl | omega)) rfl (fun _ => trivial)
  refine aw_r [(2, .dec true), (8, .dec false)] [2, 3, 35] [2, 3] [.ref 2 0, .ref 3 0, Bv false] [some (bxBox a), some (bxBox b)] [¬ (a.X1 = b.X1 ∧ a.Y1 = b.Y1 ∧ a.X2 = b.X2 ∧ a.Y2 = b.Y2 ∧ True), ¬ (a.X1 ≤ b.X1)] hB ⟨h1, h7, trivial⟩ ?_
  refine ae_then ?_
  refine aw_false rfl ?_
  refine aw_skip ?_
  refine ae_then ?_
  refine aw_seq ?_
  refine aw_seq ?_
  by_cases h26 : (a.X1 + a.X2) ≤ (2 * b.X1)
  ·refine aw_r [(8, .dec true)] [2, 3, 44] [2, 3] [.ref 2 0, .ref 3 0, Bv true] [some (bxBox a), some (bxBox b)] [inR .i64 (2 * b.X1), inR .i64 (a.X1 + a.X2), (a.X1 + a.X2) ≤ (2 * b.X1)] hB ⟨(inR_i64 (by omega) (by omega)), (inR_i64 (by omega) (by omega)), h26, trivial⟩ ?_
   refine ae_then ?_
   refine aw_true rfl ?_
   refine aw_seq ?_
   refine aw_block ?_
   refine aw_seq ?_
   by_cases h27 : (2 * b.Y2) ≤ (a.Y1 + a.Y2)
   ·refine aw_r [(8, .dec true)] [2, 3, 45] [2, 3] [.ref 2 0, .ref 3 0, Bv true] [some (bxBox a), some (bxBox b)] [inR .i64 (2 * b.Y2), inR .i64 (a.Y1 + a.Y2), (2 * b.Y2) ≤ (a.Y1 + a.Y2)] hB ⟨(inR_i64 (by omega) (by omega)), (inR_i64 (by omega) (by omega)), h27, trivial⟩ ?_
    refine ae_then ?_
    refine aw_true rfl ?_
    refine aR [] [4] [] [I 4] [] [] hB trivial ?_
    refine aw_ret ?_
    refine ae_ret_block (ae_ret_then (ae_ret_then ?_))
    refine ae_ret hB (I 4) (by kernel_rfl) (.inl (by refine congrArg I ?_; unfold relI; (repeat' split) <;> first | rfl | omega)) rfl (fun _ => trivial)
   refine aw_r [(8, .dec false)] [2, 3, 45] [2, 3] [.ref 2 0, .ref 3 0, Bv false] [some (bxBox a), some (bxBox b)] [inR .i64 (2 * b.Y2), inR .i64 (a.Y1 + a.Y2), ¬ ((2 * b.Y2) ≤ (a.Y1 + a.Y2))] hB ⟨(inR_i64 (by omega) (by omega)), (inR_i64 (by omega) (by omega)), h27, trivial⟩ ?_
   refine ae_then ?_
   refine aw_false rfl ?_
   refine aw_seq ?_
   by_cases h28 : (a.Y1 + a.Y2) ≤ (2 * b.Y1)
   ·refine aw_r [(8, .dec true)] [55] [] [Bv true] [] [inR .i64 (2 * b.Y1), inR .i64 (a.Y1 + a.Y2), (a.Y1 + a.Y2) ≤ (2 * b.Y1)] hB ⟨(inR_i64 (by omega) (by omega)), (inR_i64 (by omega) (by omega)), h28, trivial⟩ ?_
    refine ae_then ?_
    refine aw_true rfl ?_
    refine aR [] [4] [] [I 5] [] [] hB trivial ?_
    refine aw_ret ?_
    refine ae_ret_block (ae_ret_then (ae_ret_then ?_))
    refine ae_ret hB (I 5) (by kernel_rfl) (.inl (by refine congrArg I ?_; unfold relI; (repeat' split) <;> first | rfl | omega)) rfl (fun _ => trivial)
   refine aw_r [(8, .dec false)] [55] [] [Bv false] [] [inR .i64 (2 * b.Y1), inR .i64 (a.Y1 + a.Y2), ¬ ((a.Y1 + a.Y2) ≤ (2 * b.Y1))] hB ⟨(inR_i64 (by omega) (by omega)), (inR_i64 (by omega) (by omega)), h28, trivial⟩ ?_
   refine ae_then ?_
   refine aw_false rfl ?_
   refine aw_skip ?_
   refine ae_block 0 ?_
   refine ae_then ?_
   refine aR [] [4] [] [I 1] [] [] hB trivial ?_
   refine aw_ret ?_
   refine ae_ret_then ?_
   refine ae_ret hB (I 1) (by kernel_rfl) (.inl (by refine congrArg I ?_; unfold relI; (repeat' split) <;> first | rfl | omega)) rfl (fun _ => trivial)
  refine aw_r [(8, .dec false)] [2, 3, 44] [2, 3] [.ref 2 0, .ref 3 0, Bv false] [some (bxBox a), some (bxBox b)] [inR .i64 (2 * b.X1), inR .i64 (a.X1 + a.X2), ¬ ((a.X1 + a.X2) ≤ (2 * b.X1))] hB ⟨(inR_i64 (by omega) (by omega)), (inR_i64 (by omega) (by omega)), h26, trivial⟩ ?_
  refine ae_then ?_
  refine aw_false rfl ?_
  refine aw_skip ?_
  refine ae_then ?_
  refine aw_seq ?_
  refine aw_block ?_
  refine aw_seq ?_
  by_cases h29 : b.Y2 ≤ a.Y1
  ·refine aw_r [(4, .dec true)] [2, 3, 65] [2, 3] [.ref 2 0, .ref 3 0, Bv true] [some (bxBox a), some (bxBox b)] [b.Y2 ≤ a.Y1] hB ⟨h29, trivial⟩ ?_
   refine ae_then ?_
   refine aw_true rfl ?_
   refine aR [] [4] [] [I 2] [] [] hB trivial ?_
   refine aw_ret ?_
   refine ae_ret_block (ae_ret_then ?_)
   refine ae_ret hB (I 2) (by kernel_rfl) (.inl (by refine congrArg I ?_; unfold relI; (repeat' split) <;> first | rfl | omega)) rfl (fun _ => trivial)
  refine aw_r [(4, .dec false)] [2, 3, 65] [2, 3] [.ref 2 0, .ref 3 0, Bv false] [some (bxBox a), some (bxBox b)] [¬ (b.Y2 ≤ a.Y1)] hB ⟨h29, trivial⟩ ?_
  refine ae_then ?_
  refine aw_false rfl ?_
  refine aw_seq ?_
  by_cases h30 : a.Y2 ≤ b.Y1
  ·refine aw_r [(4, .dec true)] [71] [] [Bv true] [] [a.Y2 ≤ b.Y1] hB ⟨h30, trivial⟩ ?_
   refine ae_then ?_
   refine aw_true rfl ?_
   refine aR [] [4] [] [I 3] [] [] hB trivial ?_
   refine aw_ret ?_
   refine ae_ret_block (ae_ret_then ?_)
   refine ae_ret hB (I 3) (by kernel_rfl) (.inl (by refine congrArg I ?_; unfold relI; (repeat' split) <;> first | rfl | omega)) rfl (fun _ => trivial)
  refine aw_r [(4, .dec false)] [71] [] [Bv false] [] [¬ (a.Y2 ≤ b.Y1)] hB ⟨h30, trivial⟩ ?_
  refine ae_then ?_
  refine aw_false rfl ?_
  refine aw_skip ?_
  refine ae_block 1 ?_
  refine ae_then ?_
  refine aR [] [4] [] [I 0] [] [] hB trivial ?_
  refine aw_ret ?_
  refine ae_ret hB (I 0) (by kernel_rfl) (.inl (by refine congrArg I ?_; unfold relI; (repeat' split) <;> first | rfl | omega)) rfl (fun _ => trivial)



-- spec.RelationTable
theorem specRelationTable_ok (list : List Symbol) (ok : ∀ y ∈ list, y.Label.size ≤ 9223372036854775807) : ∃ (v : List (List Int)) (c : Int), (v = (relR list).1) ∧ (c = (relR list).2) ∧ Con Tryz.prog 7 [slSymbol false list] true (.tup [slLI true v, I c]) := by
  have hh : ∃ r : (List (List Int)) × Int, ((r.1 = (relR list).1) ∧ (r.2 = (relR list).2) ∧ (True)) ∧ CallOK Tryz.prog 7 [slSymbol false list] (lookO []) true (.tup [slLI true r.1, I r.2]) (lookO []) := by
    refine fn_okX (Φ := fun r : (List (List Int)) × Int => (r.1 = (relR list).1) ∧ (r.2 = (relR list).2) ∧ (True)) [] (fun r => []) (fn := Tryz.f7) (nt := 44) Tryz.func7 rfl rfl (args := [slSymbol false list]) rfl (allcons (.inl ⟨rfl, tagSymbol false _⟩) allnil) (res := fun r => .tup [slLI true r.1, I r.2]) ?_
    refine xR [] [0] [] [slSymbol false list] [] [] trivial ?_
    refine x_seq ?_
    refine x_seq ?_
    rcases Bool.eq_false_or_eq_true (okSyms list) with h1 | h1
    ·have hok := h1
     have hoi := okSyms_iff.1 hok
     have hst := rel_yes hok
     refine x_r [(1, .call [(true, .any)] true (Bv true))] [0, 10] [] [slSymbol false list, Bv false] [] [Con Tryz.prog 28 [slSymbol false list] true (Bv true) ∧ True] ⟨⟨(con_bool h1 (l20Ok_ok list ok)), trivial⟩, trivial⟩ ?_
     refine xe_then ?_
     refine x_false rfl ?_
     refine x_skip ?_
     refine xe_then ?_
     refine xR [(0, .new 11)] [0, 4] [11] [slSymbol false list, .arr 11] [some (.arr 1 0 (litF [] 1))] [] trivial ?_
     refine x_seq ?_
     refine xR [] [0, 4, 5] [11] [slSymbol false list, .arr 11, I 0] [some (.arr 1 0 (litF [] 1))] [] trivial ?_
     refine x_block ?_
     refine x_weak [] (T := [(0, slSymbol false list), (4, .arr 11), (5, I 0)]) (O := [(11, tALI true ([] : List (List Int)))]) rfl (⟨.inl rfl, .inl rfl, .inl rfl, trivial⟩) (⟨.inr ⟨rfl, (by first | rfl | (simp; done) | (simp; omega) | omega), fun i_ hi_ => absurd hi_ (Nat.not_lt_zero _)⟩, trivial⟩) ?_
     refine x_loop (X := (List (List Int)) × Int) (fun x => mkS [(0, slSymbol false list), (4, .arr 11), (5, I x.2)] [(11, tALI true x.1)]) (fun x => (0 ≤ x.2 ∧ x.2 ≤ (list.length : Int)) ∧ ((x.1.length : Int) = x.2) ∧ (x.1 = (list.take x.2.toNat).map fun a => list.map fun b => relI a.Box b.Box) ∧ True) (fun x => ((list.length : Int) - x.2).toNat) (([] : List (List Int)), 0) rfl (show (0 ≤ (0 : Int) ∧ (0 : Int) ≤ (list.length : Int)) ∧ ((([] : List (List Int)).length : Int) = (0 : Int)) ∧ (([] : List (List Int)) = (list.take (0 : Int).toNat).map fun a => list.map fun b => relI a.Box b.Box) ∧ True from ⟨(by omega), (by rfl), (by rfl), trivial⟩) (fun x hI => ?_)
     obtain ⟨tb, i⟩ := x
     obtain ⟨hi0, htl, htb, _⟩ : (0 ≤ i ∧ i ≤ (list.length : Int)) ∧ ((tb.length : Int) = i) ∧ (tb = (list.take i.toNat).map fun a => list.map fun b => relI a.Box b.Box) ∧ True := hI
     show XW _ _ _ _ (mkS [(0, slSymbol false list), (4, .arr 11), (5, I i)] [(11, tALI true tb)]) _ _
     refine x_seq ?_
     refine x_seq ?_
     by_cases h2 : i < (list.length : Int)
     ·have hi : i.toNat < list.length := by omega
      have hbi := (hoi.2 _ hi).2
      refine x_r [(3, .dec true)] [0, 4, 5, 15] [11] [slSymbol false list, .arr 11, I i, Bv true] [some (tALI true tb)] [i < (list.length : Int)] ⟨h2, trivial⟩ ?_
      refine xe_then ?_
      refine x_true rfl ?_
      refine x_skip ?_
      refine xe_then ?_
      refine x_seq ?_
      refine x_block ?_
      refine xR [(0, .new 18)] [0, 4, 5, 6] [11, 18] [slSymbol false list, .arr 11, I i, .arr 18] [some (tALI true tb), some (.arr 1 0 (litF [] 1))] [] trivial ?_
      refine x_seq ?_
      refine xR [] [0, 4, 5, 6, 7] [11, 18] [slSymbol false list, .arr 11, I i, .arr 18, I 0] [some (tALI true tb), some (.arr 1 0 (litF [] 1))] [] trivial ?_
      refine x_block ?_
      refine x_weak [] (T := [(0, slSymbol false list), (4, .arr 11), (5, I i), (6, .arr 18), (7, I 0)]) (O := [(11, tALI true tb), (18, tAI ([] : List Int))]) rfl (⟨.inl rfl, .inl rfl, .inl rfl, .inl rfl, .inl rfl, trivial⟩) (⟨.inl rfl, .inr ⟨rfl, (by first | rfl | (simp; done) | (simp; omega) | omega), fun i_ hi_ => absurd hi_ (Nat.not_lt_zero _)⟩, trivial⟩) ?_
      refine x_loop (X := (List Int) × Int) (fun x => mkS [(0, slSymbol false list), (4, .arr 11), (5, I i), (6, .arr 18), (7, I x.2)] [(11, tALI true tb), (18, tAI x.1)]) (fun x => (0 ≤ x.2 ∧ x.2 ≤ (list.length : Int)) ∧ (x.1 = (list.take x.2.toNat).map fun b => relI (at_ list i.toNat).Box b.Box) ∧ True) (fun x => ((list.length : Int) - x.2).toNat) (([] : List Int), 0) rfl (show (0 ≤ (0 : Int) ∧ (0 : Int) ≤ (list.length : Int)) ∧ (([] : List Int) = (list.take (0 : Int).toNat).map fun b => relI (at_ list i.toNat).Box b.Box) ∧ True from ⟨(by omega), (by rfl), trivial⟩) (fun x hI => ?_)
      obtain ⟨row, k⟩ := x
      obtain ⟨hk0, hrw, _⟩ : (0 ≤ k ∧ k ≤ (list.length : Int)) ∧ (row = (list.take k.toNat).map fun b => relI (at_ list i.toNat).Box b.Box) ∧ True := hI
      show XW _ _ _ _ (mkS [(0, slSymbol false list), (4, .arr 11), (5, I i), (6, .arr 18), (7, I k)] [(11, tALI true tb), (18, tAI row)]) _ _
      refine x_seq ?_
      refine x_seq ?_
      by_cases h3 : k < (list.length : Int)
      ·have hk : k.toNat < list.length := by omega
       have hbk := (hoi.2 _ hk).2
       have hrl : row.length = k.toNat := by rw [hrw]; simp; omega
       refine x_r [(3, .dec true)] [0, 4, 5, 6, 7, 22] [11, 18] [slSymbol false list, .arr 11, I i, .arr 18, I k, Bv true] [some (tALI true tb), some (tAI row)] [k < (list.length : Int)] ⟨h3, trivial⟩ ?_
       refine xe_then ?_
       refine x_true rfl ?_
       refine x_skip ?_
       refine xe_then ?_
       refine x_seq ?_
       refine x_block ?_
       refine x_r [(11, .call [(true, .any), (true, .any)] true (I (relI ((at_ list i.toNat).Box) ((at_ list k.toNat).Box)))), (12, .new 37), (13, .new 38)] [0, 4, 5, 6, 7] [11, 38] [slSymbol false list, .arr 11, I i, .arr 38, I k] [some (tALI true tb), some (.arr 1 (row.length + 1) (catF row.length (fI row) (litF [I (relI ((at_ list i.toNat).Box) ((at_ list k.toNat).Box))] 1)))] [(0 : Int) ≤ i ∧ i < (list.length : Int), (0 : Int) ≤ k ∧ k < (list.length : Int), Con Tryz.prog 29 [agBox ((at_ list i.toNat).Box), agBox ((at_ list k.toNat).Box)] true (I (relI ((at_ list i.toNat).Box) ((at_ list k.toNat).Box))) ∧ True, (row.length + 1) * 8 ≤ 140737488355328] ⟨⟨(by omega), (by omega)⟩, ⟨(by omega), (by omega)⟩, ⟨(l20Relation_ok ((at_ list i.toNat).Box) ((at_ list k.toNat).Box) hbi hbk), trivial⟩, (by omega), trivial⟩ ?_
       refine xe_block 3 ?_
       refine xe_then ?_
       refine x_weak [] (T := [(0, slSymbol false list), (4, .arr 11), (5, I i), (6, .arr 38), (7, I k)]) (O := [(11, tALI true tb), (38, tAI (row ++ [(relI ((at_ list i.toNat).Box) ((at_ list k.toNat).Box))]))]) rfl (⟨.inl rfl, .inl rfl, .inl rfl, .inl rfl, .inl rfl, trivial⟩) (⟨.inl rfl, .inr ⟨rfl, (by first | rfl | (simp; done) | (simp; omega) | omega), fun i_ hi_ => .inl (cat_snoc (enc := cI) (xs := row) rfl i_ hi_)⟩, trivial⟩) ?_
       refine x_r [] [0, 4, 5, 6, 7] [11, 38] [slSymbol false list, .arr 11, I i, .arr 38, I (k + 1)] [some (tALI true tb), some (tAI (row ++ [(relI ((at_ list i.toNat).Box) ((at_ list k.toNat).Box))]))] [inR .i64 (k + 1)] ⟨(inR_i64 (by omega) (by omega)), trivial⟩ ?_
       refine xe_weak [(18, 38)] (T := [(0, slSymbol false list), (4, .arr 11), (5, I i), (6, .arr 18), (7, I (k + 1))]) (O := [(11, tALI true tb), (18, tAI (row ++ [(relI ((at_ list i.toNat).Box) ((at_ list k.toNat).Box))]))]) rfl (⟨.inl rfl, .inl rfl, .inl rfl, .inl rfl, .inl rfl, trivial⟩) (⟨.inl rfl, .inl rfl, trivial⟩) (xe_again ((row ++ [(relI ((at_ list i.toNat).Box) ((at_ list k.toNat).Box))]), (k + 1)) rfl (show (0 ≤ (k + 1) ∧ (k + 1) ≤ (list.length : Int)) ∧ ((row ++ [(relI ((at_ list i.toNat).Box) ((at_ list k.toNat).Box))]) = (list.take (k + 1).toNat).map fun b => relI (at_ list i.toNat).Box b.Box) ∧ True from ⟨(by omega), (by rw [hrw]; exact (mapTake_succ (by omega) hk rfl).symm), trivial⟩) (by first | (show (((list.length : Int) - (k + 1)).toNat : Nat) < ((list.length : Int) - k).toNat; omega) | (dsimp only; omega)))
      have hrf : row = list.map fun b => relI (at_ list i.toNat).Box b.Box := by rw [hrw]; exact map_all (by omega)
      refine x_r [(3, .dec false)] [0, 4, 5, 6, 7, 22] [11, 18] [slSymbol false list, .arr 11, I i, .arr 18, I k, Bv false] [some (tALI true tb), some (tAI row)] [¬ (k < (list.length : Int))] ⟨h3, trivial⟩ ?_
      refine xe_then ?_
      refine x_false rfl ?_
      refine x_exit ?_
      refine xe_exit_then ?_
      refine xe_loop_exit ?_
      refine xe_exit_same ?_
      refine xe_then ?_
      refine x_weak [] (T := [(0, slSymbol false list), (4, .arr 11), (5, I i), (6, slI true row), (7, I k), (22, Bv false)]) (O := [(11, tALI true tb)]) rfl (⟨.inl rfl, .inl rfl, .inl rfl, .inr ⟨(fun _ => rfl), rfl, rfl, fun i _ => .inl rfl⟩, .inl rfl, .inl rfl, trivial⟩) (⟨.inl rfl, trivial⟩) ?_
      refine x_r [(2, .new 41), (3, .new 42)] [0, 4, 5] [42] [slSymbol false list, .arr 42, I i] [some (.arr 1 (tb.length + 1) (catF tb.length (fLI true tb) (litF [slI true row] 1)))] [(tb.length + 1) * 24 ≤ 140737488355328] ⟨(by omega), trivial⟩ ?_
      refine xe_block 1 ?_
      refine xe_then ?_
      refine x_weak [] (T := [(0, slSymbol false list), (4, .arr 42), (5, I i)]) (O := [(42, tALI true (tb ++ [row]))]) rfl (⟨.inl rfl, .inl rfl, .inl rfl, trivial⟩) (⟨.inr ⟨rfl, (by first | rfl | (simp; done) | (simp; omega) | omega), fun i_ hi_ => .inl (cat_snoc (enc := (cLI true)) (xs := tb) rfl i_ hi_)⟩, trivial⟩) ?_
      refine x_r [] [0, 4, 5] [42] [slSymbol false list, .arr 42, I (i + 1)] [some (tALI true (tb ++ [row]))] [inR .i64 (i + 1)] ⟨(inR_i64 (by omega) (by omega)), trivial⟩ ?_
      refine xe_weak [(11, 42)] (T := [(0, slSymbol false list), (4, .arr 11), (5, I (i + 1))]) (O := [(11, tALI true (tb ++ [row]))]) rfl (⟨.inl rfl, .inl rfl, .inl rfl, trivial⟩) (⟨.inl rfl, trivial⟩) (xe_again ((tb ++ [row]), (i + 1)) rfl (show (0 ≤ (i + 1) ∧ (i + 1) ≤ (list.length : Int)) ∧ (((tb ++ [row]).length : Int) = (i + 1)) ∧ ((tb ++ [row]) = (list.take (i + 1).toNat).map fun a => list.map fun b => relI a.Box b.Box) ∧ True from ⟨(by omega), (by simp; omega), (by rw [htb]; exact (mapTake_succ (by omega) hi hrf).symm), trivial⟩) (by first | (show (((list.length : Int) - (i + 1)).toNat : Nat) < ((list.length : Int) - i).toNat; omega) | (dsimp only; omega)))
     have hfin : tb = relT list := by rw [htb]; exact map_all (by omega)
     refine x_r [(3, .dec false)] [0, 4, 5, 15] [11] [slSymbol false list, .arr 11, I i, Bv false] [some (tALI true tb)] [¬ (i < (list.length : Int))] ⟨h2, trivial⟩ ?_
     refine xe_then ?_
     refine x_false rfl ?_
     refine x_exit ?_
     refine xe_exit_then ?_
     refine xe_loop_exit ?_
     refine xe_exit_same ?_
     refine xe_then ?_
     refine xR [] [2, 3] [11] [.arr 11, I 0] [some (tALI true tb)] [] trivial ?_
     refine x_ret ?_
     refine xe_end (tb, 0) (show (tb = (relR list).1) ∧ (0 = (relR list).2) ∧ (True) from ⟨(by first | (rw [hst]; done) | (rw [hst]; exact hfin) | (rw [hst, hfin]; done) | rfl), (by first | (rw [hst]; done) | (rw [hst]; exact hfin) | (rw [hst, hfin]; done) | rfl), trivial⟩) (trivial) (.tup [.arr 11, I 0]) (by kernel_rfl) (.inr ⟨⟨(fun _ => rfl), rfl, rfl, fun i _ => .inl rfl⟩, ⟨rfl, rfl⟩⟩) (fun _ => rfl) (fun _ => (by simp [tagged, taggedL, tagLI]))
    have hst := rel_no h1
    refine x_r [(1, .call [(true, .any)] true (Bv false))] [0, 10] [] [slSymbol false list, Bv true] [] [Con Tryz.prog 28 [slSymbol false list] true (Bv false) ∧ True] ⟨⟨(con_bool h1 (l20Ok_ok list ok)), trivial⟩, trivial⟩ ?_
    refine xe_then ?_
    refine x_true rfl ?_
    refine xR [] [2, 3] [] [nilA, I 1] [] [] trivial ?_
    refine x_ret ?_
    refine xe_ret_then ?_
    refine xe_end (([] : List (List Int)), 1) (show (([] : List (List Int)) = (relR list).1) ∧ (1 = (relR list).2) ∧ (True) from ⟨(by first | (rw [hst]; done) | (rw [hst]; exact hfin) | (rw [hst, hfin]; done) | rfl), (by first | (rw [hst]; done) | (rw [hst]; exact hfin) | (rw [hst, hfin]; done) | rfl), trivial⟩) (trivial) (.tup [nilA, I 1]) (by kernel_rfl) (.inr ⟨⟨rfl, rfl⟩, ⟨rfl, rfl⟩⟩) (fun _ => rfl) (fun _ => (by simp [tagged, taggedL, tagLI]))
  obtain ⟨⟨v, c⟩, ⟨hh0, hh1, _⟩, hc⟩ := hh
  exact ⟨v, c, hh0, hh1, hc⟩



theorem cat_one {α : Type} [Inhabited α] {enc : α → List AV} {x : α} {xs : List α} {g : Nat → List AV} (hx : g 0 = enc x) (i : Nat) (hi : i < ([x] ++ xs).length) : catF 1 g (fun i => enc (at_ xs i)) i = enc (at_ ([x] ++ xs) i) := by
  cases i with
  | zero => rw [catF_lt (by decide), hx]; rfl
  | succ i => rw [catF_ge (by omega), at_right (by simp)]; simp


def strB (xs : List Int) : ByteArray := ⟨(xs.map fun n => UInt8.ofNat n.toNat).toArray⟩
theorem strB_size (xs : List Int) : (strB xs).size = xs.length := by simp [strB, ByteArray.size]
theorem strB_at {xs : List Int} {i : Nat} (h : i < xs.length) (hb : 0 ≤ at_ xs i ∧ at_ xs i ≤ 255) : bAt (strB xs) i = at_ xs i := by
  have e : (strB xs).data.toList[i]? = some (UInt8.ofNat (at_ xs i).toNat) := by simp [strB, at_, List.getElem?_eq_getElem h]
  rw [bAt, List.getD_eq_getElem?_getD, e]
  simp
  omega
theorem strB_ok' {xs : List Int} (h : ∀ x ∈ xs, 0 ≤ x ∧ x ≤ 255) {n : Nat} {f : Nat → List AV} (hn : n = xs.length) (hf : ∀ i, i < xs.length → f i = fU8 xs i ∨ False) : (strB xs).size = n ∧ ∀ i, i < n → f i = byteF (strB xs) i := by
  subst hn
  refine ⟨strB_size xs, fun i hi => ?_⟩
  rw [(hf i hi).resolve_right id]
  unfold byteF
  rw [strB_at hi (h _ (at_mem hi))]
  rfl
theorem strB_ok {xs : List Int} (h : ∀ x ∈ xs, 0 ≤ x ∧ x ≤ 255) : (strB xs).size = xs.length ∧ ∀ i, i < xs.length → fU8 xs i = byteF (strB xs) i := strB_ok' h rfl fun i _ => .inl rfl
def bytesL (s : ByteArray) : List Int := s.data.toList.map fun b => (b.toNat : Int)
@[simp] theorem bytesL_len (s : ByteArray) : (bytesL s).length = s.size := by unfold bytesL; rw [List.length_map, Array.length_toList]; rfl

def decB (n : Int) : ByteArray := ⟨(Lib.itoa n).toArray⟩
def digs (u : Nat) : List Int := if h : u = 0 then [] else digs (u / 10) ++ [48 + ((u % 10 : Nat) : Int)]
termination_by u
decreasing_by omega
theorem digs_zero : digs 0 = [] := by rw [digs]; simp
theorem digs_pos {u : Nat} (h : u ≠ 0) : digs u = digs (u / 10) ++ [48 + ((u % 10 : Nat) : Int)] := by rw [digs]; simp [h]
theorem digs_len : ∀ (k u : Nat), u < 10 ^ k → (digs u).length ≤ k := by
  intro k
  induction k with
  | zero => intro u h; have : u = 0 := by simpa using h
            subst this; simp [digs_zero]
  | succ k ih =>
    intro u h
    by_cases e : u = 0
    · subst e; simp [digs_zero]
    · rw [digs_pos e]
      have := ih (u / 10) (by rw [Nat.pow_succ] at h; omega)
      simp; omega
theorem digs_bd : ∀ (u : Nat) (x : Int), x ∈ digs u → 0 ≤ x ∧ x ≤ 255 := by
  intro u
  induction u using Nat.strongRecOn with
  | _ u ih =>
    intro x hx
    by_cases e : u = 0
    · subst e; simp [digs_zero] at hx
    · rw [digs_pos e] at hx
      rcases List.mem_append.1 hx with h | h
      · exact ih (u / 10) (by omega) x h
      · simp at h; omega
theorem digs_dec : ∀ u : Nat, u ≠ 0 → (digs u).map (fun n => UInt8.ofNat n.toNat) = Lib.decDigits u := by
  intro u
  induction u using Nat.strongRecOn with
  | _ u ih =>
    intro e
    rw [digs_pos e, Lib.decDigits, List.map_append]
    by_cases h : u < 10
    · rw [dif_pos h, show u / 10 = 0 by omega, digs_zero]
      simp only [List.map_nil, List.nil_append, List.map_cons]
      congr 2
      omega
    · rw [dif_neg h, ih (u / 10) (by omega) (by omega)]
      simp only [List.map_cons, List.map_nil]
      congr 3
theorem decB_pos {n : Int} (h : 0 < n) : decB n = strB (digs n.natAbs) := by
  unfold decB strB Lib.itoa
  rw [if_neg (by omega), digs_dec _ (by omega), show n.toNat = n.natAbs by omega]
theorem decB_neg {n : Int} (h : n < 0) : decB n = (⟨#[45]⟩ : ByteArray) ++ strB (digs n.natAbs) := by
  unfold decB strB Lib.itoa
  rw [if_pos h, digs_dec _ (by omega)]
  apply ByteArray.ext
  rw [ByteArray.data_append]
  simp
theorem decB_zero : decB 0 = (⟨#[48]⟩ : ByteArray) := by
  unfold decB Lib.itoa
  rw [if_neg (by decide)]
  simp [Lib.decDigits]
theorem strB_size' (xs : List Int) : (strB xs).size = xs.length := by simp [strB, ByteArray.size]
theorem decB_size {n : Int} (h : -9223372036854775808 ≤ n ∧ n ≤ 9223372036854775807) : (decB n).size ≤ 20 := by
  have hl := digs_len 19 n.natAbs (by omega)
  rcases Int.lt_trichotomy n 0 with h1 | h1 | h1
  · rw [decB_neg h1, ByteArray.size_append, strB_size']
    have : (⟨#[45]⟩ : ByteArray).size = 1 := rfl
    omega
  · subst h1; rw [decB_zero]; decide
  · rw [decB_pos h1, strB_size']; omega
theorem tdiv_abs (k : Int) : (Int.tdiv k 10).natAbs = k.natAbs / 10 := Int.natAbs_tdiv k 10
theorem tmod_abs (k : Int) : (Int.tmod k 10).natAbs = k.natAbs % 10 := Int.natAbs_tmod k 10

theorem digs_nil {u : Nat} (h : (digs u).length = 0) : u = 0 := by
  apply Classical.byContradiction
  intro e
  rw [digs_pos e] at h
  simp at h


-- strconv.FormatInt
theorem formatInt_ok (n base : Int) (h : -9223372036854775808 ≤ n ∧ n ≤ 9223372036854775807) (hb : base = 10) : Con Tryz.prog 59 [I n, I base] true (Sv (decB n)) := by
  subst hb
  refine con_of_calls (vals := [.int .i64 n, .int .i64 10]) fun w hw => ?_
  refine (Tryz.strconv_FormatInt_10 n h.1 h.2 w (WX_tab hw)).mono ?_
  rintro e w' ⟨rfl, k, os, rfl⟩
  exact ⟨rfl, Lib.below_grow _ _ (Nat.le_refl _) k os⟩



-- impl.Decimal
theorem implDecimal_ok (n : Int) (hn : -9223372036854775808 ≤ n ∧ n ≤ 9223372036854775807) : Con Tryz.prog 31 [I n] true (Sv (decB n)) := by
  refine fn_ok (fn := Tryz.f31) (nt := 5) Tryz.func31 rfl rfl rfl rfl (by simp [taggedL, tagged]) fun B hB => ?_
  refine aR [] [0] [] [I n] [] [] hB trivial ?_
  refine aR [(1, .call [(true, .any), (true, .any)] true (Sv (decB n)))] [2] [] [Sv (decB n)] [] [Con Tryz.prog 59 [I n, I 10] true (Sv (decB n)) ∧ True] hB ⟨⟨(formatInt_ok n 10 (by omega) rfl), trivial⟩, trivial⟩ ?_
  refine aw_ret ?_
  refine ae_ret hB (Sv (decB n)) (by kernel_rfl) (.inl rfl) rfl (fun _ => trivial)



def jrest (sep : ByteArray) : List ByteArray → ByteArray
  | [] => ⟨#[]⟩
  | y :: l => (sep ++ y) ++ jrest sep l
def jnB (sep : ByteArray) : List ByteArray → ByteArray
  | [] => ⟨#[]⟩
  | x :: l => x ++ jrest sep l
theorem ba_nilT (x : ByteArray) : x ++ (⟨#[]⟩ : ByteArray) = x := by apply ByteArray.ext; simp
theorem nil_ba (x : ByteArray) : (⟨#[]⟩ : ByteArray) ++ x = x := by apply ByteArray.ext; simp
theorem jrest_snoc (sep y : ByteArray) : ∀ l, jrest sep (l ++ [y]) = (jrest sep l ++ sep) ++ y
  | [] => by simp only [List.nil_append, jrest, ba_nilT, nil_ba]
  | x :: l => by simp only [List.cons_append, jrest, jrest_snoc sep y l, ByteArray.append_assoc]
theorem jnB_snoc {sep y : ByteArray} {l : List ByteArray} (h : l ≠ []) : jnB sep (l ++ [y]) = (jnB sep l ++ sep) ++ y := by
  cases l with
  | nil => exact absurd rfl h
  | cons x l => simp only [List.cons_append, jnB, jrest_snoc, ByteArray.append_assoc]
def jnZ (xs : List ByteArray) : Nat → Nat
  | 0 => 0
  | k + 1 => jnZ xs k + (at_ xs k).size
def noB (c : UInt8) (s : ByteArray) : Prop := c ∉ s.data.toList
def splC (c : UInt8) (s : ByteArray) : List ByteArray := Lib.splitB ⟨#[c]⟩ 0 (Lib.countB s ⟨#[c]⟩) s
theorem indexByte_none (c : UInt8) : ∀ l : List UInt8, c ∉ l → Lib.indexByte l c = -1
  | [], _ => rfl
  | b :: l, h => by
    have h1 : ¬ b = c := fun e => h (by simp [e])
    have h2 := indexByte_none c l (fun e => h (by simp [e]))
    simp [Lib.indexByte, h1, h2]
theorem indexByte_hit (c : UInt8) (r : List UInt8) : ∀ l : List UInt8, c ∉ l → Lib.indexByte (l ++ c :: r) c = (l.length : Int)
  | [], _ => by simp [Lib.indexByte]
  | b :: l, h => by
    have h1 : ¬ b = c := fun e => h (by simp [e])
    have h2 := indexByte_hit c r l (fun e => h (by simp [e]))
    have h3 : ¬ (l.length : Int) = -1 := by omega
    simp [Lib.indexByte, h1, h2, h3]
theorem spl_none {c : UInt8} {s : ByteArray} (h : noB c s) : splC c s = [s] := by
  have hi : Lib.indexB s ⟨#[c]⟩ = -1 := by
    show Lib.index s.data.toList [c] = -1
    rw [Lib.index_one, indexByte_none c _ h]
  unfold splC
  rw [Lib.countB_miss _ _ hi, Lib.splitB_zero]
theorem ext_left (x y : ByteArray) : (x ++ y).extract 0 x.size = x := by
  exact ByteArray.extract_append_eq_left rfl
theorem ext_right (x y : ByteArray) : (x ++ y).extract x.size (x ++ y).size = y := by
  exact ByteArray.extract_append_eq_right rfl ByteArray.size_append
theorem spl_cons {c : UInt8} {x r : ByteArray} (h : noB c x) : splC c ((x ++ ⟨#[c]⟩) ++ r) = x :: splC c r := by
  have hi : Lib.indexB ((x ++ ⟨#[c]⟩) ++ r) ⟨#[c]⟩ = ((x.size : Nat) : Int) := by
    show Lib.index ((x ++ ⟨#[c]⟩) ++ r).data.toList [c] = _
    rw [Lib.index_one]
    have : ((x ++ ⟨#[c]⟩) ++ r).data.toList = x.data.toList ++ c :: r.data.toList := by simp
    rw [this, indexByte_hit c _ _ h]
    rfl
  have hz : (x ++ (⟨#[c]⟩ : ByteArray)).size = x.size + (⟨#[c]⟩ : ByteArray).size := by rw [ByteArray.size_append]
  have he : ((x ++ ⟨#[c]⟩) ++ r).extract (x.size + (⟨#[c]⟩ : ByteArray).size) ((x ++ ⟨#[c]⟩) ++ r).size = r := by
    rw [← hz]; exact ext_right _ _
  have hl : ((x ++ ⟨#[c]⟩) ++ r).extract 0 (x.size + 0) = x := by
    rw [Nat.add_zero, ByteArray.append_assoc]; exact ext_left _ _
  unfold splC
  rw [Lib.countB_hit _ _ _ (show 1 ≤ (⟨#[c]⟩ : ByteArray).size from Nat.le_refl 1) hi, he, Nat.add_comm 1, Lib.splitB_hit _ _ _ _ _ hi, he, hl]
theorem spl_join {c : UInt8} : ∀ {xs : List ByteArray}, xs ≠ [] → (∀ x ∈ xs, noB c x) → splC c (jnB ⟨#[c]⟩ xs) = xs
  | [], h, _ => absurd rfl h
  | [x], _, h => by
    rw [jnB, jrest, ba_nilT]; exact spl_none (h x (by simp))
  | x :: y :: l, _, h => by
    have e : jnB ⟨#[c]⟩ (x :: y :: l) = (x ++ ⟨#[c]⟩) ++ jnB ⟨#[c]⟩ (y :: l) := by simp only [jnB, jrest, ByteArray.append_assoc]
    rw [e, spl_cons (h x (by simp)), spl_join (by simp) fun z hz => h z (by simp [hz])]
theorem noB_app {c : UInt8} {x y : ByteArray} (h1 : noB c x) (h2 : noB c y) : noB c (x ++ y) := by
  unfold noB at *; simp [h1, h2]
theorem noB_nil {c : UInt8} : noB c ⟨#[]⟩ := by simp [noB]
theorem noB_jrest {c : UInt8} {sep : ByteArray} (hs : noB c sep) : ∀ {xs : List ByteArray}, (∀ x ∈ xs, noB c x) → noB c (jrest sep xs)
  | [], _ => noB_nil
  | x :: l, h => noB_app (noB_app hs (h x (by simp))) (noB_jrest hs fun z hz => h z (by simp [hz]))
theorem noB_join {c : UInt8} {sep : ByteArray} (hs : noB c sep) : ∀ {xs : List ByteArray}, (∀ x ∈ xs, noB c x) → noB c (jnB sep xs)
  | [], _ => noB_nil
  | x :: l, h => noB_app (h x (by simp)) (noB_jrest hs fun z hz => h z (by simp [hz]))
theorem decDigits_bytes : ∀ (k u : Nat), u < k → ∀ b ∈ Lib.decDigits u, 48 ≤ b.toNat ∧ b.toNat ≤ 57
  | 0, u, h, _, _ => absurd h (Nat.not_lt_zero _)
  | k + 1, u, h, b, hb => by
    rw [Lib.decDigits] at hb
    split at hb
    · have hb := List.mem_singleton.1 hb; subst hb; rw [UInt8.toNat_ofNat']; omega
    · rcases List.mem_append.1 hb with hb | hb
      · exact decDigits_bytes k (u / 10) (by omega) b hb
      · have hb := List.mem_singleton.1 hb; subst hb; rw [UInt8.toNat_ofNat']; omega
theorem decB_bytes (n : Int) : ∀ b ∈ (decB n).data.toList, b.toNat = 45 ∨ (48 ≤ b.toNat ∧ b.toNat ≤ 57) := fun b hb => by
  have hb : b ∈ Lib.itoa n := by simpa [decB] using hb
  unfold Lib.itoa at hb
  split at hb
  · rcases List.mem_cons.1 hb with e | hb
    · subst e; exact .inl rfl
    · exact .inr (decDigits_bytes _ _ (Nat.lt_succ_self _) b hb)
  · exact .inr (decDigits_bytes _ _ (Nat.lt_succ_self _) b hb)
theorem decB_noB {c : UInt8} (hc : c.toNat < 45 ∨ 57 < c.toNat) (n : Int) : noB c (decB n) := fun h => by
  have := decB_bytes n c h
  omega
theorem decDigits_ne (u : Nat) : Lib.decDigits u ≠ [] := by rw [Lib.decDigits]; split <;> simp
theorem puM_app (M : Nat) : ∀ (l r : List UInt8) (acc : Nat), Lib.parseUintM M acc (l ++ r) = match Lib.parseUintM M acc l with | .ok v => Lib.parseUintM M v r | .«syntax» => .«syntax» | .range => .range
  | [], r, acc => rfl
  | c :: l, r, acc => by
    simp only [List.cons_append, Lib.parseUintM]
    split
    · split
      · rfl
      · split
        · rfl
        · exact puM_app M l r _
    · rfl
theorem puM_dec {M : Nat} (hM : 1000000000000000000 ≤ M) : ∀ (k u : Nat), u < k → u < 1000000000000000000 → Lib.parseUintM M 0 (Lib.decDigits u) = .ok u
  | 0, u, h, _ => absurd h (Nat.not_lt_zero _)
  | k + 1, u, h, h2 => by
    rw [Lib.decDigits]
    split
    · rename_i h3
      have e : (UInt8.ofNat (48 + u)).toNat = 48 + u := by rw [UInt8.toNat_ofNat']; omega
      simp only [Lib.parseUintM, e]
      rw [if_pos (by omega), if_neg (by omega), if_neg (by omega)]
      simp
    · rename_i h3
      rw [puM_app, puM_dec hM k (u / 10) (by omega) (by omega)]
      have e : (UInt8.ofNat (48 + u % 10)).toNat = 48 + u % 10 := by rw [UInt8.toNat_ofNat']; omega
      simp only [Lib.parseUintM, e]
      rw [if_pos (by omega), if_neg (by omega), if_neg (by omega)]
      congr 1
      omega
theorem parse_dec {n : Int} (h : -1000000000000000000 < n ∧ n < 1000000000000000000) : Lib.parseIntB 64 (decB n).data.toList = .ok n := by
  have e : (decB n).data.toList = Lib.itoa n := by simp [decB]
  rw [e]
  unfold Lib.itoa
  split
  · rename_i h0
    rw [Lib.parseIntB_minus]
    unfold Lib.parseUintB
    rw [if_neg (decDigits_ne _), puM_dec (by decide) _ _ (Nat.lt_succ_self _) (by omega)]
    simp only [Lib.signedC]
    rw [if_neg (by omega)]
    congr 1
    omega
  · rename_i h0
    obtain ⟨c, r, hc⟩ : ∃ c r, Lib.decDigits n.toNat = c :: r := by
      cases h : Lib.decDigits n.toNat with
      | nil => exact absurd h (decDigits_ne _)
      | cons c r => exact ⟨c, r, rfl⟩
    have hb := decDigits_bytes _ n.toNat (Nat.lt_succ_self _) c (by rw [hc]; simp)
    rw [hc, Lib.parseIntB_plain 64 c r (by omega) (by omega), ← hc]
    unfold Lib.parseUintB
    rw [if_neg (decDigits_ne _), puM_dec (by decide) _ _ (Nat.lt_succ_self _) (by omega)]
    simp only [Lib.signlessC]
    rw [if_neg (by omega)]
    congr 1
    omega

theorem con_of_calls_sl {P : Program} {f : FuncId} {vals : List Value} {n : Nat} {T : TypeId} {cs : Array Value} {g : Nat → Value} (hn : n ≤ maxLen) (hc : ∀ i, i < n → cs[i]? = some (g i) ∧ (g i).oneCell' = true)
    (h : ∀ w, WX w → Calls P f vals.toArray w fun e w' => e = .returned (.slice (some ⟨w.heap.size, 0, none⟩) n n) ∧ w' = w.alloc (.cells cs T)) : Con P f (vals.map .val) true (.sl true 1 n fun i => [.val (g i)]) := by
  intro B vals' hbo hm hr
  have : vals' = vals := by
    have hl := hr.1
    simp at hl
    apply List.ext_getElem hl.symm
    intro i h1 h2
    have := hr.2 i (.val vals[i]) vals'[i] (by simp [List.getElem?_map, List.getElem?_eq_getElem h2]) (List.getElem?_eq_getElem h1)
    generalize vals[i] = x at *
    generalize vals'[i] = y at *
    cases this with | tree _ _ h => cases h; rfl
  subst this
  refine (h B.w0 (hm.glob _ (Kept.refl _ _))).mono ?_
  rintro e w' ⟨rfl, rfl⟩
  have hk : Kept B.w0 (fun _ => False) (B.w0.alloc (.cells cs T)) := ⟨rfl, rfl, rfl, by simp, fun k hk _ => Go.heap_alloc_old _ _ hk⟩
  have hnew := heap_alloc_new B.w0 (.cells cs T)
  refine ⟨_, B.κ0, rfl, hm.world hk, .tree _ _ (.sl true 1 n _ B.w0.heap.size 0 n (fun i _ => g i) ⟨(Array.getElem?_eq_some_iff.1 hnew).1, ⟨fun _ => Nat.le_refl _, fun h => absurd h (Nat.lt_irrefl _)⟩, fun i hi => absurd rfl hi⟩ (Nat.le_refl _) hn (fun _ _ => rfl) (fun i j hi hj => ?_) fun i j u hi hu => ?_)⟩
  · have : j = 0 := by omega
    subst this
    refine ⟨?_, (hc i hi).2⟩
    have := (hc i hi).1
    rw [Lib.cell_of_heap hnew]
    simpa using this
  · cases j with
    | zero => simp at hu; subst hu; exact .val _
    | succ j => simp at hu
theorem splB_length {sep s : ByteArray} (h1 : sep.size = 1) : (Lib.splitB sep 0 (Lib.countB s sep) s).length = Lib.countB s sep + 1 := Lib.splitB_all sep (by omega) 0 _ s rfl


def splB (sep s : ByteArray) : List ByteArray := Lib.splitB sep 0 (Lib.countB s sep) s
def sufB (s p : ByteArray) : Bool := Lib.hasSuffix s.data.toList p.data.toList
def trsB (s p : ByteArray) : ByteArray := ⟨(Lib.trimSuffix s.data.toList p.data.toList).toArray⟩
def trpB (s p : ByteArray) : ByteArray := ⟨(Lib.trimPrefix s.data.toList p.data.toList).toArray⟩
theorem sufB_app (x y : ByteArray) : sufB (x ++ y) y = true := by simp [sufB, Lib.hasSuffix]
theorem trsB_app (x y : ByteArray) : trsB (x ++ y) y = x := by
  unfold trsB Lib.trimSuffix
  have h := sufB_app x y
  unfold sufB at h
  rw [if_pos h]
  apply ByteArray.ext
  simp


def jok (sep : ByteArray) (xs : List ByteArray) : Prop := sep.size ≤ 8 ∧ xs.length ≤ 100000 ∧ (xs ≠ [] → jnZ xs xs.length + sep.size * (xs.length - 1) ≤ 1000000000)
theorem jnB_one (sep : ByteArray) {xs : List ByteArray} (h : xs.length = 1) : jnB sep xs = at_ xs 0 := by
  match xs, h with
  | [x], _ => simp [jnB, jrest, ba_nilT, at_]
theorem jnB_take {sep : ByteArray} {xs : List ByteArray} {k : Nat} (h : k + 1 < xs.length) : jnB sep (xs.take (k + 2)) = (jnB sep (xs.take (k + 1)) ++ sep) ++ at_ xs (k + 1) := by
  rw [show xs.take (k + 2) = xs.take (k + 1) ++ [at_ xs (k + 1)] from by rw [List.take_succ_eq_append_getElem h, at_eq h], jnB_snoc]
  intro e
  have h2 : (xs.take (k + 1)).length = k + 1 := by rw [List.length_take]; omega
  rw [e] at h2
  simp at h2
theorem jnB_take1 {sep : ByteArray} {xs : List ByteArray} (h : 1 ≤ xs.length) : jnB sep (xs.take 1) = at_ xs 0 := by
  have e : (xs.take 1).length = 1 := by simp; omega
  rw [jnB_one sep e]
  simp [at_]


def isDec (s : ByteArray) : Prop := ∃ n : Int, (-1000000000000000000 < n ∧ n < 1000000000000000000) ∧ s = decB n
def dcV (s : ByteArray) : Int := match Lib.parseIntB 64 s.data.toList with | .ok v => v | _ => 0
theorem ddLen : ∀ (k u : Nat), 1 ≤ k → u < 10 ^ k → (Lib.decDigits u).length ≤ k
  | 0, _, h, _ => absurd h (by decide)
  | k + 1, u, _, h => by
    rw [Lib.decDigits]
    split
    · simp
    · rename_i h3
      rw [List.length_append]
      by_cases hk : k = 0
      · subst hk; omega
      · have := ddLen k (u / 10) (by omega) (by rw [Nat.pow_succ] at h; omega)
        simp only [List.length_cons, List.length_nil]; omega
theorem trp_dec {n : Int} (h : -1000000000000000000 < n ∧ n < 1000000000000000000) : 1 ≤ (Lib.trimPrefix (decB n).data.toList [45]).length ∧ (Lib.trimPrefix (decB n).data.toList [45]).length ≤ 18 := by
  have e : (decB n).data.toList = Lib.itoa n := by simp [decB]
  have hne : ∀ u, 1 ≤ (Lib.decDigits u).length := fun u => List.length_pos_iff.2 (decDigits_ne u)
  rw [e]
  unfold Lib.itoa
  split
  · have : Lib.trimPrefix (45 :: Lib.decDigits n.natAbs) [45] = Lib.decDigits n.natAbs := by simp [Lib.trimPrefix, Lib.hasPrefix]
    rw [this]
    exact ⟨hne _, ddLen 18 _ (by decide) (by omega)⟩
  · have hl := ddLen 18 n.toNat (by decide) (by omega)
    have h1 := hne n.toNat
    obtain ⟨c, r, hc⟩ : ∃ c r, Lib.decDigits n.toNat = c :: r := by
      cases h : Lib.decDigits n.toNat with
      | nil => exact absurd h (decDigits_ne _)
      | cons c r => exact ⟨c, r, rfl⟩
    have hb := decDigits_bytes _ n.toNat (Nat.lt_succ_self _) c (by rw [hc]; simp)
    have : Lib.trimPrefix (Lib.decDigits n.toNat) [45] = Lib.decDigits n.toNat := by
      have h2 : ¬ (45 : UInt8) = c := fun e => by subst e; have : (45 : UInt8).toNat = 45 := rfl; omega
      rw [hc]
      simp [Lib.trimPrefix, Lib.hasPrefix, h2]
    rw [this]
    exact ⟨h1, hl⟩
theorem con_of_calls2 {P : Program} {f : FuncId} {vals : List Value} {v u : Value} {fr : Bool} (h : ∀ w, WX w → Calls P f vals.toArray w fun e w' => e = .returned (.tuple #[v, u]) ∧ Below w.heap.size w w') : Con P f (vals.map .val) fr (.tup [.val v, .val u]) := by
  intro B vals' hbo hm hr
  have h1 := con_of_calls (fr := fr) h B vals' hbo hm hr
  refine h1.mono ?_
  rintro e w' ⟨v', κ', rfl, h2, h3⟩
  refine ⟨v', κ', rfl, h2, ?_⟩
  have e : v' = .tuple #[v, u] := h3.val_of
  subst e
  exact .tup _ _ rfl fun q a x ha hx => by
    match q, ha, hx with
    | 0, ha, hx => simp at ha hx; subst ha; subst hx; exact .tree _ _ (.val _)
    | 1, ha, hx => simp at ha hx; subst ha; subst hx; exact .tree _ _ (.val _)
    | q + 2, ha, _ => simp at ha


def comB (xs : List Int) : ByteArray := jnB ⟨#[44]⟩ (xs.map decB)
def bndI (xs : List Int) : Prop := xs.length ≤ 1000 ∧ ∀ x ∈ xs, -1000000000000000000 < x ∧ x < 1000000000000000000
def dcs (s : ByteArray) : List Int := (splB ⟨#[44]⟩ s).map dcV
theorem splB_len (c : UInt8) (s : ByteArray) : (splB ⟨#[c]⟩ s).length ≤ s.size + 1 := by
  have h1 := Lib.countB_le ⟨#[c]⟩ (Nat.le_refl 1) s.size s (Nat.le_refl _)
  have h2 := splB_length (sep := ⟨#[c]⟩) (s := s) rfl
  show (Lib.splitB ⟨#[c]⟩ 0 (Lib.countB s ⟨#[c]⟩) s).length ≤ _
  omega
theorem trsB_size (s p : ByteArray) : (trsB s p).size ≤ s.size := by
  show (Lib.trimSuffix s.data.toList p.data.toList).toArray.size ≤ s.data.size
  unfold Lib.trimSuffix
  split
  · simp
  · simp
def linB (s : ByteArray) : List ByteArray := if s = ⟨#[]⟩ then [] else splB ⟨#[10]⟩ (trsB s ⟨#[10]⟩)
def linesX : List ByteArray → Nat → ByteArray
  | _, 0 => ⟨#[]⟩
  | ls, k + 1 => linesX ls k ++ (at_ ls k ++ ⟨#[10]⟩)
theorem linesX_join {ls : List ByteArray} : ∀ {k}, k < ls.length → linesX ls (k + 1) = jnB ⟨#[10]⟩ (ls.take (k + 1)) ++ ⟨#[10]⟩
  | 0, h => by rw [linesX, linesX, nil_ba, jnB_take1 h]
  | k + 1, h => by
    rw [linesX, linesX_join (by omega), jnB_take (by omega)]
    simp only [ByteArray.append_assoc]
theorem linesX_ne {ls : List ByteArray} {k : Nat} : linesX ls (k + 1) ≠ ⟨#[]⟩ := fun e => by
  have := congrArg ByteArray.size e
  simp only [linesX, ByteArray.size_append] at this
  have h1 : (⟨#[10]⟩ : ByteArray).size = 1 := rfl
  have h2 : (⟨#[]⟩ : ByteArray).size = 0 := rfl
  omega
theorem linesX_all {ls : List ByteArray} (h : ls ≠ []) : ∃ k, ls.length = k + 1 ∧ linesX ls ls.length = jnB ⟨#[10]⟩ ls ++ ⟨#[10]⟩ := by
  obtain ⟨k, hk⟩ : ∃ k, ls.length = k + 1 := ⟨ls.length - 1, by have := List.length_pos_iff.2 h; omega⟩
  refine ⟨k, hk, ?_⟩
  rw [hk, linesX_join (by omega), ← hk, List.take_length]
theorem suf_lines {ls : List ByteArray} (h : ls ≠ []) : sufB (linesX ls ls.length) ⟨#[10]⟩ = true := by
  obtain ⟨k, hk, e⟩ := linesX_all h
  rw [e]; exact sufB_app _ _
def linOk (s : ByteArray) : Prop := s.size ≤ 10000000 ∧ (s = ⟨#[]⟩ ∨ sufB s ⟨#[10]⟩ = true)
theorem linesX_size {ls : List ByteArray} {B : Nat} (h : ∀ l ∈ ls, l.size ≤ B) : ∀ k, k ≤ ls.length → (linesX ls k).size ≤ (B + 1) * k
  | 0, _ => Nat.zero_le _
  | k + 1, hk => by
    have h1 := linesX_size h k (by omega)
    have h2 := h _ (at_mem (show k < ls.length from hk))
    have h3 : (⟨#[10]⟩ : ByteArray).size = 1 := rfl
    rw [linesX, ByteArray.size_append, ByteArray.size_append, Nat.mul_succ]; omega


def syLn (s : Symbol) : ByteArray := jnB ⟨#[32]⟩ [s.Label, decB s.Box.X1, decB s.Box.Y1, decB s.Box.X2, decB s.Box.Y2]
def syTx (xs : List Symbol) : ByteArray := if okSyms xs = true then linesX (xs.map syLn) xs.length else ⟨#[]⟩
theorem syLn_eq (s : Symbol) : syLn s = ((((((((s.Label ++ ⟨#[32]⟩) ++ decB s.Box.X1) ++ ⟨#[32]⟩) ++ decB s.Box.Y1) ++ ⟨#[32]⟩) ++ decB s.Box.X2) ++ ⟨#[32]⟩) ++ decB s.Box.Y2) := by
  simp only [syLn, jnB, jrest, ba_nilT, ByteArray.append_assoc]
theorem syI_dec {s : Symbol} (h : syI s) : (decB s.Box.X1).size ≤ 20 ∧ (decB s.Box.Y1).size ≤ 20 ∧ (decB s.Box.X2).size ≤ 20 ∧ (decB s.Box.Y2).size ≤ 20 := by
  unfold syI at h
  exact ⟨decB_size (by omega), decB_size (by omega), decB_size (by omega), decB_size (by omega)⟩
theorem syLn_size {s : Symbol} (h : syI s) : (syLn s).size ≤ 200 := by
  have h2 := syI_dec h
  have h3 : (⟨#[32]⟩ : ByteArray).size = 1 := rfl
  have h4 := h.1
  rw [syLn_eq]
  simp only [ByteArray.size_append]
  omega
theorem syLs_size {xs : List Symbol} (h : ∀ y ∈ xs, syI y) (hl : xs.length ≤ 20) {k : Nat} (hk : k ≤ xs.length) : (linesX (xs.map syLn) k).size ≤ 5000 := by
  have h1 := linesX_size (B := 200) (ls := xs.map syLn) (fun y hy => by
    obtain ⟨s, hs, rfl⟩ := List.mem_map.1 hy
    exact syLn_size (h s hs)) k (by rw [List.length_map]; exact hk)
  omega
theorem syTx_size (xs : List Symbol) : (syTx xs).size ≤ 5000 := by
  unfold syTx
  split
  · rename_i h
    have q := okSyms_I h
    exact syLs_size q.2 (by omega) (Nat.le_refl _)
  · exact Nat.zero_le _
theorem sy_step {xs : List Symbol} {k : Nat} (h : k < xs.length) : linesX (xs.map syLn) (k + 1) = linesX (xs.map syLn) k ++ (syLn (at_ xs k) ++ ⟨#[10]⟩) := by
  rw [linesX, at_mapB h]


-- impl.SymbolsText
theorem implSymbolsText_ok (list : List Symbol) (ok : ∀ y ∈ list, y.Label.size ≤ 9223372036854775807) : Con Tryz.prog 8 [slSymbol false list] true (Sv (syTx list)) := by
  refine fn_ok (fn := Tryz.f8) (nt := 45) Tryz.func8 rfl rfl rfl rfl (by simp [taggedL, tagged, tagSymbol]) fun B hB => ?_
  refine aw_lens (x := slSymbol false list) 0 rfl (fun len_list => ?_)
  simp [LenOK, LenL, cSymbol, fSymbol, slSymbol] at len_list
  refine aR [] [0] [] [slSymbol false list] [] [] hB trivial ?_
  refine aw_seq ?_
  refine aw_seq ?_
  rcases Bool.eq_false_or_eq_true (okSyms list) with h1 | h1
  ·have hok := h1
   have hoI := okSyms_I hok
   have hI := hoI.2
   have hln : list.length ≤ 20 := by omega
   refine aw_r [(1, .call [(true, .any)] true (Bv true))] [0, 8] [] [slSymbol false list, Bv false] [] [Con Tryz.prog 23 [slSymbol false list] true (Bv true) ∧ True] hB ⟨⟨(con_bool h1 (ValidSymbols_ok list ok)), trivial⟩, trivial⟩ ?_
   refine ae_then ?_
   refine aw_false rfl ?_
   refine aw_skip ?_
   refine ae_then ?_
   refine aR [(0, .newb 3 60006 5)] [0, 3] [3, 60006] [slSymbol false list, .ref 3 0] [some (.bld 54 60006), some (.buf 5 false (⟨#[]⟩ : ByteArray))] [] hB trivial ?_
   refine aw_seq ?_
   refine aR [] [3, 9, 10, 11] [3, 60006] [.ref 3 0, slSymbol false list, I (list.length : Int), I 0] [some (.bld 54 60006), some (.buf 5 false (⟨#[]⟩ : ByteArray))] [] hB trivial ?_
   refine aw_block ?_
   refine aw_loop (fun gn gσ => ∃ (k : Int) (tx : ByteArray), gn = ((list.length : Int) - k).toNat ∧ (0 ≤ k ∧ k ≤ (list.length : Int)) ∧ (tx = linesX (list.map syLn) k.toNat) ∧ gσ = mkS [(3, .ref 3 0), (9, slSymbol false list), (10, I (list.length : Int)), (11, I k)] [(3, .bld 54 60006), (60006, .buf 5 false tx)]) (((list.length : Int) - 0).toNat) ⟨0, (⟨#[]⟩ : ByteArray), rfl, (by omega), (by rfl), rfl⟩ (fun gn gσ hI => ?_)
   obtain ⟨k, tx, rfl, hi0, htx, rfl⟩ := hI
   refine aw_seq ?_
   by_cases h2 : k < (list.length : Int)
   ·have hi : k.toNat < list.length := by omega
    have hsy := hI _ (at_mem hi)
    have hsd := syI_dec hsy
    have hs1 := hsy.1
    have hsb := hsy.2
    have hzl := syLs_size hI hln (k := k.toNat) (by omega)
    rw [← htx] at hzl
    have hks : (k + 1).toNat = k.toNat + 1 := by omega
    have h32 : (⟨#[32]⟩ : ByteArray).size = 1 := rfl
    have h10 : (⟨#[10]⟩ : ByteArray).size = 1 := rfl
    refine aw_r [(0, .dec true)] [3, 9, 10, 11, 12] [3, 60006] [.ref 3 0, slSymbol false list, I (list.length : Int), I k, Bv true] [some (.bld 54 60006), some (.buf 5 false tx)] [k < (list.length : Int)] hB ⟨h2, trivial⟩ ?_
    refine ae_then ?_
    refine aw_seq ?_
    refine aw_true rfl ?_
    refine aw_skip ?_
    refine ae_then ?_
    refine aw_seq ?_
    refine aw_block ?_
    refine aR [(2, .new 5)] [3, 5, 9, 10, 11] [3, 5, 60006] [.ref 3 0, .ref 5 0, slSymbol false list, I (list.length : Int), I k] [some (.bld 54 60006), some (bxSymbol (at_ list k.toNat)), some (.buf 5 false tx)] [(0 : Int) ≤ k ∧ k < (list.length : Int)] hB ⟨⟨(by omega), (by omega)⟩, trivial⟩ ?_
    refine aw_r [(6, .call [(true, .any)] true (Sv (decB (((at_ list k.toNat).Box).X1)))), (12, .call [(true, .any)] true (Sv (decB (((at_ list k.toNat).Box).Y1)))), (18, .call [(true, .any)] true (Sv (decB (((at_ list k.toNat).Box).X2)))), (24, .call [(true, .any)] true (Sv (decB (((at_ list k.toNat).Box).Y2)))), (27, .bw 3 60006 60007 (.string (((((((((((at_ list k.toNat).Label) ++ (⟨#[32]⟩ : ByteArray)) ++ (decB (((at_ list k.toNat).Box).X1))) ++ (⟨#[32]⟩ : ByteArray)) ++ (decB (((at_ list k.toNat).Box).Y1))) ++ (⟨#[32]⟩ : ByteArray)) ++ (decB (((at_ list k.toNat).Box).X2))) ++ (⟨#[32]⟩ : ByteArray)) ++ (decB (((at_ list k.toNat).Box).Y2))) ++ (⟨#[10]⟩ : ByteArray))) false (((((((((((at_ list k.toNat).Label) ++ (⟨#[32]⟩ : ByteArray)) ++ (decB (((at_ list k.toNat).Box).X1))) ++ (⟨#[32]⟩ : ByteArray)) ++ (decB (((at_ list k.toNat).Box).Y1))) ++ (⟨#[32]⟩ : ByteArray)) ++ (decB (((at_ list k.toNat).Box).X2))) ++ (⟨#[32]⟩ : ByteArray)) ++ (decB (((at_ list k.toNat).Box).Y2))) ++ (⟨#[10]⟩ : ByteArray)))] [3, 9, 10, 11] [3, 60007] [.ref 3 0, slSymbol false list, I (list.length : Int), I k] [some (.bld 54 60007), some (.buf 5 false (tx ++ (((((((((((at_ list k.toNat).Label) ++ (⟨#[32]⟩ : ByteArray)) ++ (decB (((at_ list k.toNat).Box).X1))) ++ (⟨#[32]⟩ : ByteArray)) ++ (decB (((at_ list k.toNat).Box).Y1))) ++ (⟨#[32]⟩ : ByteArray)) ++ (decB (((at_ list k.toNat).Box).X2))) ++ (⟨#[32]⟩ : ByteArray)) ++ (decB (((at_ list k.toNat).Box).Y2))) ++ (⟨#[10]⟩ : ByteArray))))] [((at_ list k.toNat).Label).size + (⟨#[32]⟩ : ByteArray).size ≤ 9223372036854775807, Con Tryz.prog 31 [I (((at_ list k.toNat).Box).X1)] true (Sv (decB (((at_ list k.toNat).Box).X1))) ∧ True, (((at_ list k.toNat).Label) ++ (⟨#[32]⟩ : ByteArray)).size + (decB (((at_ list k.toNat).Box).X1)).size ≤ 9223372036854775807, ((((at_ list k.toNat).Label) ++ (⟨#[32]⟩ : ByteArray)) ++ (decB (((at_ list k.toNat).Box).X1))).size + (⟨#[32]⟩ : ByteArray).size ≤ 9223372036854775807, Con Tryz.prog 31 [I (((at_ list k.toNat).Box).Y1)] true (Sv (decB (((at_ list k.toNat).Box).Y1))) ∧ True, (((((at_ list k.toNat).Label) ++ (⟨#[32]⟩ : ByteArray)) ++ (decB (((at_ list k.toNat).Box).X1))) ++ (⟨#[32]⟩ : ByteArray)).size + (decB (((at_ list k.toNat).Box).Y1)).size ≤ 9223372036854775807, ((((((at_ list k.toNat).Label) ++ (⟨#[32]⟩ : ByteArray)) ++ (decB (((at_ list k.toNat).Box).X1))) ++ (⟨#[32]⟩ : ByteArray)) ++ (decB (((at_ list k.toNat).Box).Y1))).size + (⟨#[32]⟩ : ByteArray).size ≤ 9223372036854775807, Con Tryz.prog 31 [I (((at_ list k.toNat).Box).X2)] true (Sv (decB (((at_ list k.toNat).Box).X2))) ∧ True, (((((((at_ list k.toNat).Label) ++ (⟨#[32]⟩ : ByteArray)) ++ (decB (((at_ list k.toNat).Box).X1))) ++ (⟨#[32]⟩ : ByteArray)) ++ (decB (((at_ list k.toNat).Box).Y1))) ++ (⟨#[32]⟩ : ByteArray)).size + (decB (((at_ list k.toNat).Box).X2)).size ≤ 9223372036854775807, ((((((((at_ list k.toNat).Label) ++ (⟨#[32]⟩ : ByteArray)) ++ (decB (((at_ list k.toNat).Box).X1))) ++ (⟨#[32]⟩ : ByteArray)) ++ (decB (((at_ list k.toNat).Box).Y1))) ++ (⟨#[32]⟩ : ByteArray)) ++ (decB (((at_ list k.toNat).Box).X2))).size + (⟨#[32]⟩ : ByteArray).size ≤ 9223372036854775807, Con Tryz.prog 31 [I (((at_ list k.toNat).Box).Y2)] true (Sv (decB (((at_ list k.toNat).Box).Y2))) ∧ True, (((((((((at_ list k.toNat).Label) ++ (⟨#[32]⟩ : ByteArray)) ++ (decB (((at_ list k.toNat).Box).X1))) ++ (⟨#[32]⟩ : ByteArray)) ++ (decB (((at_ list k.toNat).Box).Y1))) ++ (⟨#[32]⟩ : ByteArray)) ++ (decB (((at_ list k.toNat).Box).X2))) ++ (⟨#[32]⟩ : ByteArray)).size + (decB (((at_ list k.toNat).Box).Y2)).size ≤ 9223372036854775807, ((((((((((at_ list k.toNat).Label) ++ (⟨#[32]⟩ : ByteArray)) ++ (decB (((at_ list k.toNat).Box).X1))) ++ (⟨#[32]⟩ : ByteArray)) ++ (decB (((at_ list k.toNat).Box).Y1))) ++ (⟨#[32]⟩ : ByteArray)) ++ (decB (((at_ list k.toNat).Box).X2))) ++ (⟨#[32]⟩ : ByteArray)) ++ (decB (((at_ list k.toNat).Box).Y2))).size + (⟨#[10]⟩ : ByteArray).size ≤ 9223372036854775807, ([.ref 3 0, Sv (((((((((((at_ list k.toNat).Label) ++ (⟨#[32]⟩ : ByteArray)) ++ (decB (((at_ list k.toNat).Box).X1))) ++ (⟨#[32]⟩ : ByteArray)) ++ (decB (((at_ list k.toNat).Box).Y1))) ++ (⟨#[32]⟩ : ByteArray)) ++ (decB (((at_ list k.toNat).Box).X2))) ++ (⟨#[32]⟩ : ByteArray)) ++ (decB (((at_ list k.toNat).Box).Y2))) ++ (⟨#[10]⟩ : ByteArray))] : List AV) = [.ref 3 0, Sv (((((((((((at_ list k.toNat).Label) ++ (⟨#[32]⟩ : ByteArray)) ++ (decB (((at_ list k.toNat).Box).X1))) ++ (⟨#[32]⟩ : ByteArray)) ++ (decB (((at_ list k.toNat).Box).Y1))) ++ (⟨#[32]⟩ : ByteArray)) ++ (decB (((at_ list k.toNat).Box).X2))) ++ (⟨#[32]⟩ : ByteArray)) ++ (decB (((at_ list k.toNat).Box).Y2))) ++ (⟨#[10]⟩ : ByteArray))] ∧ BwOK Tryz.prog 30 54 5 (.string (((((((((((at_ list k.toNat).Label) ++ (⟨#[32]⟩ : ByteArray)) ++ (decB (((at_ list k.toNat).Box).X1))) ++ (⟨#[32]⟩ : ByteArray)) ++ (decB (((at_ list k.toNat).Box).Y1))) ++ (⟨#[32]⟩ : ByteArray)) ++ (decB (((at_ list k.toNat).Box).X2))) ++ (⟨#[32]⟩ : ByteArray)) ++ (decB (((at_ list k.toNat).Box).Y2))) ++ (⟨#[10]⟩ : ByteArray))) false tx false (((((((((((at_ list k.toNat).Label) ++ (⟨#[32]⟩ : ByteArray)) ++ (decB (((at_ list k.toNat).Box).X1))) ++ (⟨#[32]⟩ : ByteArray)) ++ (decB (((at_ list k.toNat).Box).Y1))) ++ (⟨#[32]⟩ : ByteArray)) ++ (decB (((at_ list k.toNat).Box).X2))) ++ (⟨#[32]⟩ : ByteArray)) ++ (decB (((at_ list k.toNat).Box).Y2))) ++ (⟨#[10]⟩ : ByteArray))] hB ⟨(by (try simp only [ByteArray.size_append]); omega), ⟨(implDecimal_ok (((at_ list k.toNat).Box).X1) (by omega)), trivial⟩, (by (try simp only [ByteArray.size_append]); omega), (by (try simp only [ByteArray.size_append]); omega), ⟨(implDecimal_ok (((at_ list k.toNat).Box).Y1) (by omega)), trivial⟩, (by (try simp only [ByteArray.size_append]); omega), (by (try simp only [ByteArray.size_append]); omega), ⟨(implDecimal_ok (((at_ list k.toNat).Box).X2) (by omega)), trivial⟩, (by (try simp only [ByteArray.size_append]); omega), (by (try simp only [ByteArray.size_append]); omega), ⟨(implDecimal_ok (((at_ list k.toNat).Box).Y2) (by omega)), trivial⟩, (by (try simp only [ByteArray.size_append]); omega), (by (try simp only [ByteArray.size_append]); omega), ⟨rfl, bw_ok (by (try simp only [ByteArray.size_append]); omega)⟩, trivial⟩ ?_
    refine ae_block 1 ?_
    refine ae_then ?_
    refine aw_r [] [3, 9, 10, 11] [3, 60007] [.ref 3 0, slSymbol false list, I (list.length : Int), I (k + 1)] [some (.bld 54 60007), some (.buf 5 false (tx ++ (((((((((((at_ list k.toNat).Label) ++ (⟨#[32]⟩ : ByteArray)) ++ (decB (((at_ list k.toNat).Box).X1))) ++ (⟨#[32]⟩ : ByteArray)) ++ (decB (((at_ list k.toNat).Box).Y1))) ++ (⟨#[32]⟩ : ByteArray)) ++ (decB (((at_ list k.toNat).Box).X2))) ++ (⟨#[32]⟩ : ByteArray)) ++ (decB (((at_ list k.toNat).Box).Y2))) ++ (⟨#[10]⟩ : ByteArray))))] [inR .i64 (k + 1)] hB ⟨(inR_i64 (by omega) (by omega)), trivial⟩ ?_
    refine ae_weak hB [(60006, 60007)] (T := [(3, .ref 3 0), (9, slSymbol false list), (10, I (list.length : Int)), (11, I (k + 1))]) (O := [(3, .bld 54 60006), (60006, .buf 5 false (tx ++ (((((((((((at_ list k.toNat).Label) ++ (⟨#[32]⟩ : ByteArray)) ++ (decB (((at_ list k.toNat).Box).X1))) ++ (⟨#[32]⟩ : ByteArray)) ++ (decB (((at_ list k.toNat).Box).Y1))) ++ (⟨#[32]⟩ : ByteArray)) ++ (decB (((at_ list k.toNat).Box).X2))) ++ (⟨#[32]⟩ : ByteArray)) ++ (decB (((at_ list k.toNat).Box).Y2))) ++ (⟨#[10]⟩ : ByteArray))))]) rfl (⟨.inl rfl, .inl rfl, .inl rfl, .inl rfl, trivial⟩) (⟨.inl rfl, .inl rfl, trivial⟩) (ae_again _ (by omega) ⟨(k + 1), (tx ++ (((((((((((at_ list k.toNat).Label) ++ (⟨#[32]⟩ : ByteArray)) ++ (decB (((at_ list k.toNat).Box).X1))) ++ (⟨#[32]⟩ : ByteArray)) ++ (decB (((at_ list k.toNat).Box).Y1))) ++ (⟨#[32]⟩ : ByteArray)) ++ (decB (((at_ list k.toNat).Box).X2))) ++ (⟨#[32]⟩ : ByteArray)) ++ (decB (((at_ list k.toNat).Box).Y2))) ++ (⟨#[10]⟩ : ByteArray))), rfl, (by omega), (by rw [hks, sy_step hi, ← htx, syLn_eq]; first | done | (simp only [ByteArray.append_assoc])), rfl⟩)
   have hie : k.toNat = list.length := by omega
   rw [hie] at htx
   refine aw_r [(0, .dec false)] [3, 9, 10, 11, 12] [3, 60006] [.ref 3 0, slSymbol false list, I (list.length : Int), I k, Bv false] [some (.bld 54 60006), some (.buf 5 false tx)] [¬ (k < (list.length : Int))] hB ⟨h2, trivial⟩ ?_
   refine ae_then ?_
   refine aw_seq ?_
   refine aw_false rfl ?_
   refine aw_exit ?_
   refine ae_exit_then ?_
   refine ae_exit_then ?_
   refine ae_exit_same ?_
   refine ae_then ?_
   refine aR [(0, .bs 3 60006)] [2] [] [Sv tx] [] [([.ref 3 0] : List AV) = [.ref 3 0] ∧ BsOK Tryz.prog 32 54 5] hB ⟨⟨rfl, bs_ok⟩, trivial⟩ ?_
   refine aw_ret ?_
   refine ae_ret hB (Sv tx) (by kernel_rfl) (.inl (by first | (rw [syTx, if_pos hok, htx]; done) | (rw [syTx, if_neg (by simp [*])]; done))) rfl (fun _ => trivial)
  refine aw_r [(1, .call [(true, .any)] true (Bv false))] [0, 8] [] [slSymbol false list, Bv true] [] [Con Tryz.prog 23 [slSymbol false list] true (Bv false) ∧ True] hB ⟨⟨(con_bool h1 (ValidSymbols_ok list ok)), trivial⟩, trivial⟩ ?_
  refine ae_then ?_
  refine aw_true rfl ?_
  refine aR [] [2] [] [Sv (⟨#[]⟩ : ByteArray)] [] [] hB trivial ?_
  refine aw_ret ?_
  refine ae_ret_then ?_
  refine ae_ret hB (Sv (⟨#[]⟩ : ByteArray)) (by kernel_rfl) (.inl (by first | (rw [syTx, if_pos hok, htx]; done) | (rw [syTx, if_neg (by simp [*])]; done))) rfl (fun _ => trivial)



-- strings.HasSuffix
theorem hasSuffix_ok (s p : ByteArray) (hs : s.size ≤ 9223372036854775807) : Con Tryz.prog 60 [Sv s, Sv p] true (Bv (sufB s p)) := by
  refine con_of_calls (vals := [.string s, .string p]) fun w _ => ?_
  refine (Tryz.strings_HasSuffix s p w hs).mono ?_
  rintro e w' ⟨rfl, rfl⟩
  exact ⟨rfl, Below.refl _ _⟩



-- strings.TrimSuffix
theorem trimSuffix_ok (s p : ByteArray) (hs : s.size ≤ 9223372036854775807) : Con Tryz.prog 62 [Sv s, Sv p] true (Sv (trsB s p)) := by
  refine con_of_calls (vals := [.string s, .string p]) fun w _ => ?_
  refine (Tryz.strings_TrimSuffix s p w hs).mono ?_
  rintro e w' ⟨rfl, rfl⟩
  exact ⟨rfl, Below.refl _ _⟩



-- strings.Split
set_option maxHeartbeats 2000000 in
set_option maxRecDepth 100000 in
theorem split_ok (s sep : ByteArray) (hs : s.size ≤ 140737488 ∧ True) (h1 : sep.size = 1) : Con Tryz.prog 61 [Sv s, Sv sep] true (slS true (splB sep s)) := by
  obtain ⟨c, rfl⟩ := Lib.one_byte sep h1
  have hle := Lib.countB_le ⟨#[c]⟩ (by omega) s.size s (Nat.le_refl _)
  have hlen := splB_length (s := s) h1
  have hcell : ∀ i, i < Lib.countB s ⟨#[c]⟩ + 1 → (((Lib.splitB ⟨#[c]⟩ 0 (Lib.countB s ⟨#[c]⟩) s).map Value.string).toArray)[i]? = some (.string (at_ (splB ⟨#[c]⟩ s) i)) ∧ (Value.string (at_ (splB ⟨#[c]⟩ s) i)).oneCell' = true := fun i hi => by
    have hi2 : i < (Lib.splitB ⟨#[c]⟩ 0 (Lib.countB s ⟨#[c]⟩) s).length := by omega
    refine ⟨?_, rfl⟩
    have e : at_ (splB ⟨#[c]⟩ s) i = (Lib.splitB ⟨#[c]⟩ 0 (Lib.countB s ⟨#[c]⟩) s)[i] := at_eq hi2
    rw [e]
    simp [List.getElem?_eq_getElem hi2]
  have hmain := con_of_calls_sl (P := Tryz.prog) (f := 61) (vals := [.string s, .string ⟨#[c]⟩]) (n := Lib.countB s ⟨#[c]⟩ + 1) (T := 9) (cs := ((Lib.splitB ⟨#[c]⟩ 0 (Lib.countB s ⟨#[c]⟩) s).map Value.string).toArray) (g := fun i => .string (at_ (splB ⟨#[c]⟩ s) i)) (by unfold maxLen; omega) hcell ?_
  · have e : slS true (splB ⟨#[c]⟩ s) = .sl true 1 (Lib.countB s ⟨#[c]⟩ + 1) fun i => [Sv (at_ (splB ⟨#[c]⟩ s) i)] := by
      rw [← hlen]; rfl
    rw [e]
    exact hmain
  · intro w _
    have hI : ∀ (x : ByteArray) (d : Array Value), x.size ≤ s.size → Calls Tryz.prog 84 #[.string x, .string ⟨#[c]⟩] (w.alloc (.cells d 9)) fun e w' => e = .returned (.int .i64 (Lib.indexB x ⟨#[c]⟩)) ∧ w' = w.alloc (.cells d 9) := fun x d _ => by
      have := Tryz.strings_Index_one x c (w.alloc (.cells d 9))
      have e : Lib.indexB x ⟨#[c]⟩ = Lib.indexByte x.data.toList c := Lib.index_one _ _
      rw [e]
      exact this
    have hC : Calls Tryz.prog 91 #[.string s, .string ⟨#[c]⟩] w fun e w' => e = .returned (.int .i64 (Lib.countB s ⟨#[c]⟩)) ∧ w' = w := by
      have := Tryz.strings_Count_one s c w
      have e : Lib.countB s ⟨#[c]⟩ = Lib.countByte s.data.toList c := Lib.count_one c _
      rw [e]
      exact this
    have hcore := Any.strings_genSplit_core Tryz.lays221 (by kernel_rfl) s ⟨#[c]⟩ 0 (-1) (Lib.countB s ⟨#[c]⟩ + 1) w (by omega) (by omega) (Nat.zero_le _) hI hC (by decide) (by decide) (by rw [if_pos (by decide)]; omega)
    rw [Nat.add_sub_cancel, hlen] at hcore
    have e2 : Lib.cellsOf (Lib.splitB ⟨#[c]⟩ 0 (Lib.countB s ⟨#[c]⟩) s) (Lib.countB s ⟨#[c]⟩ + 1) = ((Lib.splitB ⟨#[c]⟩ 0 (Lib.countB s ⟨#[c]⟩) s).map Value.string).toArray := by rw [← hlen]; exact Lib.cellsOf_full _
    rw [e2] at hcore
    go_enter Tryz.func61, Tryz.ntmps61
    go_wp2_with (go_at_call 77; refine hcore.mono ?_; rintro e w' ⟨rfl, hw⟩; rw [hw])
    go_ret
    exact ⟨rfl, rfl⟩



def dcB (s : ByteArray) : Bool := match Lib.parseIntB 64 s.data.toList with | .ok n => decide ((1 ≤ (Lib.trimPrefix s.data.toList [45]).length ∧ (Lib.trimPrefix s.data.toList [45]).length ≤ 18) ∧ decB n = s) | _ => false
def dcN (s : ByteArray) : Int := if dcB s = true then dcV s else 0
theorem dcB_len {s : ByteArray} (h : ¬ (1 ≤ (Lib.trimPrefix s.data.toList [45]).length ∧ (Lib.trimPrefix s.data.toList [45]).length ≤ 18)) : dcB s = false ∧ dcN s = 0 := by
  have e : dcB s = false := by
    unfold dcB
    split
    · exact decide_eq_false fun q => h q.1
    · rfl
  exact ⟨e, by rw [dcN, e]; rfl⟩
theorem dcB_yes {s : ByteArray} {n : Int} (hp : Lib.parseIntB 64 s.data.toList = .ok n) (hl : 1 ≤ (Lib.trimPrefix s.data.toList [45]).length ∧ (Lib.trimPrefix s.data.toList [45]).length ≤ 18) (he : decB n = s) : dcB s = true ∧ dcN s = n := by
  have e : dcB s = true := by
    unfold dcB
    rw [hp]
    exact decide_eq_true ⟨hl, he⟩
  exact ⟨e, by rw [dcN, if_pos e]; unfold dcV; rw [hp]⟩
theorem dcB_ne {s : ByteArray} {n : Int} (hp : Lib.parseIntB 64 s.data.toList = .ok n) (he : ¬ decB n = s) : dcB s = false ∧ dcN s = 0 := by
  have e : dcB s = false := by
    unfold dcB
    rw [hp]
    exact decide_eq_false fun q => he q.2
  exact ⟨e, by rw [dcN, e]; rfl⟩
theorem dcB_bad {s : ByteArray} (hp : ∀ n, Lib.parseIntB 64 s.data.toList ≠ .ok n) : dcB s = false ∧ dcN s = 0 := by
  have e : dcB s = false := by
    unfold dcB
    split
    · rename_i n h; exact absurd h (hp n)
    · rfl
  exact ⟨e, by rw [dcN, e]; rfl⟩
theorem pI_bd {s : ByteArray} {n : Int} (hp : Lib.parseIntB 64 s.data.toList = .ok n) : -9223372036854775808 ≤ n ∧ n ≤ 9223372036854775807 := by
  have := Lib.parseIntB_bounds hp
  have e : ((2 ^ (64 - 1) : Nat) : Int) = 9223372036854775808 := by decide
  rw [e] at this
  omega


theorem bAt_at (s : ByteArray) (j : Nat) : bAt s j = (((s.data.toList.getD j 0).toNat : Nat) : Int) := rfl
theorem noB_ext {c : UInt8} {s : ByteArray} {a b : Nat} (hb : b ≤ s.size) (h : ∀ j, a ≤ j → j < b → ¬ bAt s j = ((c.toNat : Nat) : Int)) : noB c (s.extract a b) := fun hm => by
  rw [Lib.extract_data] at hm
  obtain ⟨i, hi, e⟩ := List.getElem_of_mem hm
  have hl : s.data.toList.length = s.size := by rw [Array.length_toList]; rfl
  simp only [List.length_take, List.length_drop] at hi
  refine h (a + i) (by omega) (by omega) ?_
  rw [bAt_at, List.getD_eq_getElem?_getD, List.getElem?_eq_getElem (by omega)]
  have e2 : s.data.toList[a + i]'(by omega) = c := by rw [← e]; simp
  rw [e2]; rfl
theorem ext_cut {c : UInt8} {s : ByteArray} {a i : Nat} (h1 : a ≤ i) (h2 : i < s.size) (hb : bAt s i = ((c.toNat : Nat) : Int)) : s.extract a s.size = (s.extract a i ++ ⟨#[c]⟩) ++ s.extract (i + 1) s.size := by
  have hl : s.data.toList.length = s.size := by rw [Array.length_toList]; rfl
  have hc : s.data.toList[i]'(by omega) = c := by
    rw [bAt_at, List.getD_eq_getElem?_getD, List.getElem?_eq_getElem (by omega)] at hb
    have hb : (s.data.toList[i]'(by omega)).toNat = c.toNat := by
      have : (((s.data.toList[i]'(by omega)).toNat : Nat) : Int) = ((c.toNat : Nat) : Int) := hb
      omega
    exact UInt8.toNat_inj.1 hb
  apply ByteArray.ext
  apply Array.ext'
  have e1 : ((s.extract a i ++ ⟨#[c]⟩) ++ s.extract (i + 1) s.size).data.toList = ((s.extract a i).data.toList ++ [c]) ++ (s.extract (i + 1) s.size).data.toList := by simp
  have hd : s.data.toList.drop a = (s.data.toList.drop a).take (i - a) ++ s.data.toList.drop i := by
    have q := List.take_append_drop (i - a) (s.data.toList.drop a)
    rw [List.drop_drop, show a + (i - a) = i from by omega] at q
    exact q.symm
  have hi : s.data.toList.drop i = c :: s.data.toList.drop (i + 1) := by rw [List.drop_eq_getElem_cons (by omega), hc]
  have t1 : (s.data.toList.drop a).take (s.size - a) = s.data.toList.drop a := List.take_of_length_le (by rw [List.length_drop]; omega)
  have t2 : (s.data.toList.drop (i + 1)).take (s.size - (i + 1)) = s.data.toList.drop (i + 1) := List.take_of_length_le (by rw [List.length_drop]; omega)
  rw [e1, Lib.extract_data, Lib.extract_data, Lib.extract_data, t1, t2, List.append_assoc]
  show _ = (s.data.toList.drop a).take (i - a) ++ (c :: s.data.toList.drop (i + 1))
  rw [← hi]
  exact hd
theorem spl_hit {c : UInt8} {s : ByteArray} {a i : Nat} (h1 : a ≤ i) (h2 : i < s.size) (hn : ∀ j, a ≤ j → j < i → ¬ bAt s j = ((c.toNat : Nat) : Int)) (hb : bAt s i = ((c.toNat : Nat) : Int)) : splC c (s.extract a s.size) = s.extract a i :: splC c (s.extract (i + 1) s.size) := by
  rw [ext_cut h1 h2 hb, spl_cons (noB_ext (by omega) hn)]
theorem spl_end {c : UInt8} {s : ByteArray} {a : Nat} (hn : ∀ j, a ≤ j → j < s.size → ¬ bAt s j = ((c.toNat : Nat) : Int)) : splC c (s.extract a s.size) = [s.extract a s.size] := spl_none (noB_ext (Nat.le_refl _) hn)
theorem ext_all (s : ByteArray) : s.extract 0 s.size = s := by
  apply ByteArray.ext
  apply Array.ext'
  rw [Lib.extract_data]
  have hl : s.data.toList.length = s.size := by rw [Array.length_toList]; rfl
  rw [List.drop_zero, List.take_of_length_le (by omega)]


def valL (acc : Nat) (l : List UInt8) : Nat := l.foldl (fun a b => a * 10 + (b.toNat - 48)) acc
def allDig (l : List UInt8) : Prop := ∀ b ∈ l, 48 ≤ b.toNat ∧ b.toNat ≤ 57
theorem valL_lt : ∀ (l : List UInt8) (acc k : Nat), allDig l → acc < 10 ^ k → valL acc l < 10 ^ (k + l.length)
  | [], acc, k, _, h => by simpa [valL] using h
  | c :: l, acc, k, hd, h => by
    have hc := hd c (by simp)
    have := valL_lt l (acc * 10 + (c.toNat - 48)) (k + 1) (fun b hb => hd b (by simp [hb])) (by rw [Nat.pow_succ]; omega)
    rw [List.length_cons, show k + (l.length + 1) = k + 1 + l.length from by omega]
    exact this
theorem puM_val {M : Nat} (hM : 1000000000000000000 ≤ M) : ∀ (l : List UInt8) (acc k : Nat), allDig l → acc < 10 ^ k → k + l.length ≤ 18 → Lib.parseUintM M acc l = .ok (valL acc l)
  | [], acc, k, _, _, _ => rfl
  | c :: l, acc, k, hd, h, hk => by
    have hc := hd c (by simp)
    rw [List.length_cons] at hk
    have h1 : acc * 10 + (c.toNat - 48) < 10 ^ (k + 1) := by rw [Nat.pow_succ]; omega
    have h2 : 10 ^ (k + 1) ≤ 10 ^ 18 := Nat.pow_le_pow_right (by decide) (by omega)
    have h3 : (10 : Nat) ^ 18 = 1000000000000000000 := by decide
    have h4 : 10 ^ k ≤ 10 ^ 17 := Nat.pow_le_pow_right (by decide) (by omega)
    have h5 : (10 : Nat) ^ 17 = 100000000000000000 := by decide
    rw [Lib.parseUintM, if_pos hc, if_neg (by omega), if_neg (by omega)]
    exact puM_val hM l _ (k + 1) (fun b hb => hd b (by simp [hb])) h1 (by omega)
def sgnI (neg : Bool) (n : Int) : Int := if neg = true then -n else n
theorem parse_neg {r : List UInt8} (hd : allDig r) (h : 1 ≤ r.length ∧ r.length ≤ 18) : Lib.parseIntB 64 (45 :: r) = .ok (-((valL 0 r : Nat) : Int)) := by
  have hv := valL_lt r 0 0 hd (by decide)
  have h2 : 10 ^ (0 + r.length) ≤ 10 ^ 18 := Nat.pow_le_pow_right (by decide) (by omega)
  have h3 : (10 : Nat) ^ 18 = 1000000000000000000 := by decide
  rw [Lib.parseIntB_minus]
  unfold Lib.parseUintB
  rw [if_neg (fun e => by rw [e] at h; exact absurd h.1 (by decide)), puM_val (by decide) r 0 0 hd (by decide) (by omega)]
  simp only [Lib.signedC]
  rw [if_neg (by omega)]
theorem parse_pos {r : List UInt8} (hd : allDig r) (h : 1 ≤ r.length ∧ r.length ≤ 18) : Lib.parseIntB 64 r = .ok ((valL 0 r : Nat) : Int) := by
  have hv := valL_lt r 0 0 hd (by decide)
  have h2 : 10 ^ (0 + r.length) ≤ 10 ^ 18 := Nat.pow_le_pow_right (by decide) (by omega)
  have h3 : (10 : Nat) ^ 18 = 1000000000000000000 := by decide
  obtain ⟨c, q, rfl⟩ : ∃ c q, r = c :: q := by
    cases r with
    | nil => exact absurd h.1 (by decide)
    | cons c q => exact ⟨c, q, rfl⟩
  have hc := hd c (by simp)
  rw [Lib.parseIntB_plain 64 c q (by omega) (by omega)]
  unfold Lib.parseUintB
  rw [if_neg (by simp), puM_val (by decide) _ 0 0 hd (by decide) (by omega)]
  simp only [Lib.signlessC]
  rw [if_neg (by omega)]

def unS (s t : ByteArray) : Prop := s.data.toList = 45 :: t.data.toList ∨ (t = s ∧ ∀ r, s.data.toList ≠ 45 :: r)
theorem ba_len (s : ByteArray) : s.data.toList.length = s.size := by rw [Array.length_toList]; rfl
theorem unS_trim {s t : ByteArray} (h : unS s t) : Lib.trimPrefix s.data.toList [45] = t.data.toList := by
  rcases h with h | ⟨rfl, h⟩
  · rw [h]; simp [Lib.trimPrefix, Lib.hasPrefix]
  · cases hq : t.data.toList with
    | nil => simp [Lib.trimPrefix, Lib.hasPrefix]
    | cons c r =>
      have : ¬ (45 : UInt8) = c := fun e => h r (by rw [hq, e])
      simp [Lib.trimPrefix, Lib.hasPrefix, this]
theorem unS_size {s t : ByteArray} (h : unS s t) : (t.size < s.size ↔ s.data.toList = 45 :: t.data.toList) ∧ t.size ≤ s.size := by
  have e1 := ba_len s
  have e2 := ba_len t
  rcases h with h | ⟨rfl, h⟩
  · have := congrArg List.length h
    rw [List.length_cons] at this
    exact ⟨⟨fun _ => h, fun _ => by omega⟩, by omega⟩
  · exact ⟨⟨fun q => absurd q (Nat.lt_irrefl _), fun q => absurd q (h _)⟩, Nat.le_refl _⟩
theorem unS_neg {s : ByteArray} (h0 : 0 < s.size) (h : bAt s 0 = 45) : unS s (s.extract 1 s.size) := by
  have hl := ba_len s
  refine .inl ?_
  rw [Lib.extract_data, List.take_of_length_le (by rw [List.length_drop]; omega)]
  cases hq : s.data.toList with
  | nil => rw [hq] at hl; simp at hl; omega
  | cons c r =>
    have : c = 45 := by
      rw [bAt_at, hq] at h
      have h : ((c.toNat : Nat) : Int) = 45 := h
      exact UInt8.toNat_inj.1 (show c.toNat = (45 : UInt8).toNat from by have : (45 : UInt8).toNat = 45 := rfl; omega)
    subst this
    rfl
theorem unS_pos {s : ByteArray} (h : s.size = 0 ∨ ¬ bAt s 0 = 45) : unS s s := by
  refine .inr ⟨rfl, fun r hr => ?_⟩
  have hl := ba_len s
  rcases h with h | h
  · rw [hr] at hl; simp at hl; omega
  · exact h (by rw [bAt_at, hr]; rfl)
theorem valL_take {l : List UInt8} {k : Nat} (h : k < l.length) : valL 0 (l.take (k + 1)) = valL 0 (l.take k) * 10 + ((l[k]).toNat - 48) := by
  rw [List.take_succ_eq_append_getElem h]
  unfold valL
  rw [List.foldl_append]
  rfl
theorem dcB_dig {s t : ByteArray} (hu : unS s t) (h : dcB s = true) : allDig t.data.toList := by
  unfold dcB at h
  split at h
  · rename_i n hp
    have q := (of_decide_eq_true h).2
    have hs : s.data.toList = Lib.itoa n := by rw [← q]; simp [decB]
    unfold Lib.itoa at hs
    split at hs
    · rcases hu with hu | ⟨rfl, hu⟩
      · rw [hs] at hu
        have : t.data.toList = Lib.decDigits n.natAbs := (List.cons.inj hu).2.symm
        rw [this]; exact decDigits_bytes _ _ (Nat.lt_succ_self _)
      · exact absurd hs (hu _)
    · have hd : allDig s.data.toList := by rw [hs]; exact decDigits_bytes _ _ (Nat.lt_succ_self _)
      rcases hu with hu | ⟨rfl, hu⟩
      · have := hd 45 (by rw [hu]; simp)
        exact absurd this (by decide)
      · exact hd
  · cases h
theorem dcB_nodig {s t : ByteArray} (hu : unS s t) (h : ¬ allDig t.data.toList) : dcB s = false ∧ dcN s = 0 := by
  have e : dcB s = false := by
    cases q : dcB s with
    | false => rfl
    | true => exact absurd (dcB_dig hu q) h
  exact ⟨e, by rw [dcN, e]; rfl⟩
theorem unS_parse {s t : ByteArray} (hu : unS s t) (hd : allDig t.data.toList) (hl : 1 ≤ t.size ∧ t.size ≤ 18) : Lib.parseIntB 64 s.data.toList = .ok (if t.size < s.size then -((valL 0 t.data.toList : Nat) : Int) else ((valL 0 t.data.toList : Nat) : Int)) := by
  have e2 := ba_len t
  rcases hu with h | ⟨rfl, h⟩
  · rw [if_pos ((unS_size (.inl h)).1.2 h), h, parse_neg hd (by omega)]
  · rw [if_neg (Nat.lt_irrefl _), parse_pos hd (by omega)]


theorem bAt_nat {t : ByteArray} {j : Nat} (h : j < t.size) : bAt t j = (((t.data.toList[j]'(by rw [ba_len]; exact h)).toNat : Nat) : Int) := by
  rw [bAt_at, List.getD_eq_getElem?_getD, List.getElem?_eq_getElem (by rw [ba_len]; exact h)]
  rfl
theorem allDig_take {t : ByteArray} {k : Nat} (hk : k ≤ t.size) (h : ∀ j, j < k → 48 ≤ bAt t j ∧ bAt t j ≤ 57) : allDig (t.data.toList.take k) := fun b hb => by
  obtain ⟨j, hj, e⟩ := List.getElem_of_mem hb
  have hl := ba_len t
  simp only [List.length_take] at hj
  have q := h j (by omega)
  rw [bAt_nat (by omega)] at q
  have e2 : t.data.toList[j]'(by omega) = b := by rw [← e]; simp
  rw [e2] at q
  omega
theorem valL_bd {t : ByteArray} {k : Nat} (h : ∀ j, j < k → 48 ≤ bAt t j ∧ bAt t j ≤ 57) (hk : k < t.size) (hl : t.size ≤ 18) : valL 0 (t.data.toList.take k) < 100000000000000000 := by
  have q := valL_lt _ 0 0 (allDig_take (by omega) h) (by decide)
  have hl2 := ba_len t
  have h2 : 10 ^ (0 + (t.data.toList.take k).length) ≤ 10 ^ 17 := Nat.pow_le_pow_right (by decide) (by rw [List.length_take]; omega)
  have h3 : (10 : Nat) ^ 17 = 100000000000000000 := by decide
  omega
theorem valL_all {t : ByteArray} (h : allDig t.data.toList) (hl : t.size ≤ 18) : valL 0 t.data.toList < 1000000000000000000 := by
  have q := valL_lt _ 0 0 h (by decide)
  have hl2 := ba_len t
  have h2 : 10 ^ (0 + t.data.toList.length) ≤ 10 ^ 18 := Nat.pow_le_pow_right (by decide) (by omega)
  have h3 : (10 : Nat) ^ 18 = 1000000000000000000 := by decide
  omega
theorem valL_step {t : ByteArray} {k : Nat} (hk : k < t.size) (hd : 48 ≤ bAt t k) : ((valL 0 (t.data.toList.take (k + 1)) : Nat) : Int) = 10 * ((valL 0 (t.data.toList.take k) : Nat) : Int) + (bAt t k - 48) := by
  rw [valL_take (by rw [ba_len]; exact hk)]
  rw [bAt_nat hk] at *
  omega
theorem ba_zero {s : ByteArray} (h : s.size = 0) : s = ⟨#[]⟩ := by
  apply ByteArray.ext
  exact Array.eq_empty_of_size_eq_zero h


theorem splC_ne (c : UInt8) (s : ByteArray) : splC c s ≠ [] := fun e => by
  have h := splB_length (sep := ⟨#[c]⟩) (s := s) rfl
  have h2 : (Lib.splitB ⟨#[c]⟩ 0 (Lib.countB s ⟨#[c]⟩) s).length = 0 := by show (splC c s).length = 0; rw [e]; rfl
  omega
theorem jn_splC (c : UInt8) : ∀ (n : Nat) (s : ByteArray), s.size ≤ n → jnB ⟨#[c]⟩ (splC c s) = s := by
  intro n
  induction n with
  | zero => intro s h; have := ba_zero (s := s) (by omega); subst this; rw [spl_none noB_nil, jnB, jrest, ba_nilT]
  | succ n ih =>
    intro s h
    by_cases hc : noB c s
    · rw [spl_none hc, jnB, jrest, ba_nilT]
    · obtain ⟨a, b, e, ha⟩ := List.eq_append_cons_of_mem (Classical.not_not.1 hc)
      have hs : s = ((⟨a.toArray⟩ : ByteArray) ++ ⟨#[c]⟩) ++ (⟨b.toArray⟩ : ByteArray) := by
        apply ByteArray.ext
        apply Array.ext'
        rw [e]; simp
      have hl := congrArg List.length e
      rw [ba_len, List.length_append, List.length_cons] at hl
      have hb : (⟨b.toArray⟩ : ByteArray).size ≤ n := by show b.toArray.size ≤ n; rw [List.size_toArray]; omega
      have q := ih ⟨b.toArray⟩ hb
      have hx : splC c s = (⟨a.toArray⟩ : ByteArray) :: splC c ⟨b.toArray⟩ := by
        rw [hs]; exact spl_cons (by unfold noB; simpa using ha)
      rw [hx]
      obtain ⟨y, l, hy⟩ : ∃ y l, splC c (⟨b.toArray⟩ : ByteArray) = y :: l := by
        cases hq : splC c (⟨b.toArray⟩ : ByteArray) with
        | nil => exact absurd hq (splC_ne _ _)
        | cons y l => exact ⟨y, l, rfl⟩
      rw [hy] at q ⊢
      have e2 : jnB ⟨#[c]⟩ ((⟨a.toArray⟩ : ByteArray) :: y :: l) = ((⟨a.toArray⟩ : ByteArray) ++ ⟨#[c]⟩) ++ jnB ⟨#[c]⟩ (y :: l) := by simp only [jnB, jrest, ByteArray.append_assoc]
      rw [e2, q, ← hs]


theorem splitB_piece (c : UInt8) : ∀ (k : Nat) (s : ByteArray), ∀ x ∈ Lib.splitB ⟨#[c]⟩ 0 k s, x.size ≤ s.size
  | 0, s, x, h => by rw [Lib.splitB_zero] at h; have := List.mem_singleton.1 h; subst this; exact Nat.le_refl _
  | k + 1, s, x, h => by
    rcases Lib.indexB_cases s ⟨#[c]⟩ with hi | ⟨i, hi, hr⟩
    · rw [Lib.splitB_miss _ _ _ _ hi] at h; have := List.mem_singleton.1 h; subst this; exact Nat.le_refl _
    · rw [Lib.splitB_hit _ _ _ _ _ hi] at h
      rcases List.mem_cons.1 h with h | h
      · subst h; rw [ByteArray.size_extract]; omega
      · have := splitB_piece c k _ x h
        rw [ByteArray.size_extract] at this
        omega
theorem splB_piece {c : UInt8} {s x : ByteArray} (h : x ∈ splB ⟨#[c]⟩ s) : x.size ≤ s.size := splitB_piece c _ s x h


theorem dcB_dec {s : ByteArray} (h : dcB s = true) : decB (dcN s) = s := by
  have hN : dcN s = dcV s := if_pos h
  unfold dcB at h
  split at h
  · rename_i n hp
    have q := of_decide_eq_true h
    rw [hN]
    unfold dcV
    rw [hp]
    exact q.2
  · cases h
theorem dcB_num {n : Int} (h : -1000000000000000000 < n ∧ n < 1000000000000000000) : dcB (decB n) = true := (dcB_yes (parse_dec h) (trp_dec h) rfl).1


def lnR (s : ByteArray) : List ByteArray × Bool := if s = ⟨#[]⟩ then ([], true) else if sufB s ⟨#[10]⟩ = true then (splB ⟨#[10]⟩ (trsB s ⟨#[10]⟩), true) else ([], false)
theorem splB_pos (c : UInt8) (s : ByteArray) : 1 ≤ (splB ⟨#[c]⟩ s).length := List.length_pos_iff.2 (splC_ne c s)
theorem lnR_len (s : ByteArray) : (lnR s).1.length ≤ s.size + 1 ∧ ∀ l ∈ (lnR s).1, l.size ≤ s.size := by
  unfold lnR
  split
  · exact ⟨Nat.zero_le _, fun l h => by cases h⟩
  · split
    · have h1 := splB_len 10 (trsB s ⟨#[10]⟩)
      have h2 := trsB_size s ⟨#[10]⟩
      exact ⟨by show (splB _ _).length ≤ _; omega, fun l h => Nat.le_trans (splB_piece h) h2⟩
    · exact ⟨Nat.zero_le _, fun l h => by cases h⟩
theorem dcN_num {n : Int} (h : -1000000000000000000 < n ∧ n < 1000000000000000000) : dcN (decB n) = n := (dcB_yes (parse_dec h) (trp_dec h) rfl).2
theorem suf_of {s : ByteArray} {c : UInt8} (h : sufB s ⟨#[c]⟩ = true) : ∃ t, s = t ++ (⟨#[c]⟩ : ByteArray) := by
  unfold sufB Lib.hasSuffix at h
  obtain ⟨t, ht⟩ := List.isSuffixOf_iff_suffix.1 h
  refine ⟨⟨t.toArray⟩, ?_⟩
  apply ByteArray.ext
  apply Array.ext'
  simpa using ht.symm
theorem at_takeT' {α : Type} [Inhabited α] (xs : List α) {k j : Nat} (h : j < k) : at_ (xs.take k) j = at_ xs j := by simp [at_, List.getElem?_take, h]
theorem splC_noB (c : UInt8) : ∀ (n : Nat) (s : ByteArray), s.size ≤ n → ∀ x ∈ splC c s, noB c x := by
  intro n
  induction n with
  | zero => intro s h x hx; have := ba_zero (s := s) (by omega); subst this; rw [spl_none noB_nil] at hx; rw [List.mem_singleton.1 hx]; exact noB_nil
  | succ n ih =>
    intro s h x hx
    by_cases hc : noB c s
    · rw [spl_none hc] at hx; rw [List.mem_singleton.1 hx]; exact hc
    · obtain ⟨a, b, e, ha⟩ := List.eq_append_cons_of_mem (Classical.not_not.1 hc)
      have hs : s = ((⟨a.toArray⟩ : ByteArray) ++ ⟨#[c]⟩) ++ (⟨b.toArray⟩ : ByteArray) := by
        apply ByteArray.ext
        apply Array.ext'
        rw [e]; simp
      have hl := congrArg List.length e
      rw [ba_len, List.length_append, List.length_cons] at hl
      have hb : (⟨b.toArray⟩ : ByteArray).size ≤ n := by show b.toArray.size ≤ n; rw [List.size_toArray]; omega
      have hx2 : splC c s = (⟨a.toArray⟩ : ByteArray) :: splC c ⟨b.toArray⟩ := by
        rw [hs]; exact spl_cons (by unfold noB; simpa using ha)
      rw [hx2] at hx
      rcases List.mem_cons.1 hx with rfl | hx
      · unfold noB; simpa using ha
      · exact ih _ hb x hx
theorem lines_cases (s : ByteArray) : (at_ (splB ⟨#[10]⟩ s) ((splB ⟨#[10]⟩ s).length - 1) = ⟨#[]⟩ ∧ lnR s = ((splB ⟨#[10]⟩ s).take ((splB ⟨#[10]⟩ s).length - 1), true)) ∨ (¬ at_ (splB ⟨#[10]⟩ s) ((splB ⟨#[10]⟩ s).length - 1) = ⟨#[]⟩ ∧ (lnR s).2 = false) := by
  have hp := splB_pos 10 s
  have hj := jn_splC 10 s.size s (Nat.le_refl _)
  have hn := splC_noB 10 s.size s (Nat.le_refl _)
  generalize hL : splB ⟨#[10]⟩ s = L at hp ⊢
  have hL' : splC 10 s = L := hL
  rw [hL'] at hj hn
  have hd : L = L.take (L.length - 1) ++ [at_ L (L.length - 1)] := by
    have h2 := List.take_succ_eq_append_getElem (l := L) (i := L.length - 1) (by omega)
    rw [show L.length - 1 + 1 = L.length from by omega, List.take_length, ← at_eq (by omega)] at h2
    exact h2
  generalize at_ L (L.length - 1) = y at hd ⊢
  generalize L.take (L.length - 1) = T at hd ⊢
  subst hd
  have hnT : ∀ x ∈ T, noB 10 x := fun x hx => hn x (List.mem_append_left _ hx)
  have hny : noB 10 y := hn y (by simp)
  by_cases hT : T = []
  · subst hT
    have hs : s = y := by rw [← hj]; simp [jnB, jrest, ba_nilT]
    by_cases hy : y = ⟨#[]⟩
    · exact .inl ⟨hy, by unfold lnR; rw [if_pos (hs.trans hy)]⟩
    · refine .inr ⟨hy, ?_⟩
      unfold lnR
      rw [if_neg (fun q => hy (hs ▸ q)), if_neg]
      intro q
      obtain ⟨t, ht⟩ := suf_of q
      exact hny (by rw [← hs, ht]; simp)
  · have hs : s = (jnB ⟨#[10]⟩ T ++ ⟨#[10]⟩) ++ y := by rw [← hj]; exact jnB_snoc hT
    by_cases hy : y = ⟨#[]⟩
    · subst hy
      have hs2 : s = jnB ⟨#[10]⟩ T ++ ⟨#[10]⟩ := by rw [hs]; exact ba_nilT _
      refine .inl ⟨rfl, ?_⟩
      unfold lnR
      rw [if_neg (fun q => by have := congrArg ByteArray.size q; rw [hs2, ByteArray.size_append] at this; have h1 : (⟨#[10]⟩ : ByteArray).size = 1 := rfl; have h2 : (⟨#[]⟩ : ByteArray).size = 0 := rfl; omega), hs2, if_pos (sufB_app _ _), trsB_app]
      congr 1
      exact spl_join (c := 10) hT hnT
    · refine .inr ⟨hy, ?_⟩
      have hz : 0 < y.size := Nat.pos_of_ne_zero fun e => hy (ba_zero e)
      unfold lnR
      rw [if_neg (fun q => by have := congrArg ByteArray.size q; rw [hs, ByteArray.size_append] at this; have h2 : (⟨#[]⟩ : ByteArray).size = 0 := rfl; omega), if_neg]
      intro q
      obtain ⟨t, ht⟩ := suf_of q
      have e := congrArg (fun z : ByteArray => z.data.toList) (hs.symm.trans ht)
      simp only [ByteArray.data_append, Array.toList_append] at e
      have hyl : y.data.toList ≠ [] := fun e2 => by have := ba_len y; rw [e2] at this; simp at this; omega
      have e3 := congrArg List.getLast? e
      obtain ⟨z, hz2⟩ : ∃ z, y.data.toList.getLast? = some z := by
        cases hq : y.data.toList.getLast? with
        | none => exact absurd (List.getLast?_eq_none_iff.1 hq) hyl
        | some z => exact ⟨z, rfl⟩
      rw [List.getLast?_append, List.getLast?_append, hz2] at e3
      have e4 : z = 10 := by simpa using e3
      have : (10 : UInt8) ∈ y.data.toList := e4 ▸ List.mem_of_getLast? hz2
      exact hny this
theorem linesX_T {T : List ByteArray} {s : ByteArray} (h : lnR s = (T, true)) : linesX T T.length = s := by
  unfold lnR at h
  split at h
  · rename_i h0; have := congrArg Prod.fst h; simp only at this; subst this; rw [h0]; rfl
  · rename_i h0
    split at h
    · rename_i h1
      have hT := congrArg Prod.fst h
      simp only at hT
      obtain ⟨t, ht⟩ := suf_of h1
      rw [ht, trsB_app] at hT
      obtain ⟨_, _, e⟩ := linesX_all (ls := T) (by rw [← hT]; exact splC_ne 10 t)
      rw [e, ← hT, ht]
      congr 1
      exact jn_splC 10 t.size t (Nat.le_refl _)
    · have := congrArg Prod.snd h; simp at this


-- impl.linesOf
theorem linesOfT_ok (s : ByteArray) (hz : s.size ≤ 10000000) : ∃ (ls : List ByteArray) (k : Bool), (ls = (lnR s).1) ∧ (k = (lnR s).2) ∧ Con Tryz.prog 33 [Sv s] true (.tup [slS true ls, Bv k]) := by
  have hh : ∃ r : (List ByteArray) × Bool, ((r.1 = (lnR s).1) ∧ (r.2 = (lnR s).2) ∧ (True)) ∧ CallOK Tryz.prog 33 [Sv s] (lookO []) true (.tup [slS true r.1, Bv r.2]) (lookO []) := by
    refine fn_okX (Φ := fun r : (List ByteArray) × Bool => (r.1 = (lnR s).1) ∧ (r.2 = (lnR s).2) ∧ (True)) [] (fun r => []) (fn := Tryz.f33) (nt := 12) Tryz.func33 rfl rfl (args := [Sv s]) rfl (allcons (.inl ⟨rfl, trivial⟩) allnil) (res := fun r => .tup [slS true r.1, Bv r.2]) ?_
    refine xR [] [0] [] [Sv s] [] [] trivial ?_
    refine x_seq ?_
    refine x_seq ?_
    by_cases h1 : s = (⟨#[]⟩ : ByteArray)
    ·have hlb : lnR s = ([], true) := if_pos h1
     refine x_r [(1, .dec true)] [0, 5] [] [Sv s, Bv true] [] [s = (⟨#[]⟩ : ByteArray)] ⟨h1, trivial⟩ ?_
     refine xe_then ?_
     refine x_true rfl ?_
     refine xR [] [2, 3] [] [nilA, Bv true] [] [] trivial ?_
     refine x_ret ?_
     refine xe_ret_then ?_
     refine xe_end (([] : List ByteArray), true) (show (([] : List ByteArray) = (lnR s).1) ∧ (true = (lnR s).2) ∧ (True) from ⟨(by first | (rw [hlb]; done)), (by first | (rw [hlb]; done)), trivial⟩) (trivial) (.tup [nilA, Bv true]) (by kernel_rfl) (.inr ⟨⟨rfl, rfl⟩, ⟨rfl, rfl⟩⟩) (fun _ => rfl) (fun _ => (by simp [tagged, taggedL, tagS]))
    have hse := h1
    refine x_r [(1, .dec false)] [0, 5] [] [Sv s, Bv false] [] [¬ (s = (⟨#[]⟩ : ByteArray))] ⟨h1, trivial⟩ ?_
    refine xe_then ?_
    refine x_false rfl ?_
    refine x_skip ?_
    refine xe_then ?_
    refine x_seq ?_
    refine x_seq ?_
    rcases Bool.eq_false_or_eq_true (sufB s (⟨#[10]⟩ : ByteArray)) with h2 | h2
    ·have hlb : lnR s = (splB ⟨#[10]⟩ (trsB s ⟨#[10]⟩), true) := by unfold lnR; rw [if_neg hse, if_pos h2]
     refine x_r [(1, .call [(true, .any), (true, .any)] true (Bv true))] [0, 8] [] [Sv s, Bv false] [] [Con Tryz.prog 60 [Sv s, Sv (⟨#[10]⟩ : ByteArray)] true (Bv true) ∧ True] ⟨⟨(con_bool h2 (hasSuffix_ok s (⟨#[10]⟩ : ByteArray) (by omega))), trivial⟩, trivial⟩ ?_
     refine xe_then ?_
     refine x_false rfl ?_
     refine x_skip ?_
     refine xe_then ?_
     refine xR [(1, .call [(true, .any), (true, .any)] true (Sv (trsB s (⟨#[10]⟩ : ByteArray)))), (2, .call [(true, .any), (true, .any)] true (slS true (splB (⟨#[10]⟩ : ByteArray) (trsB s (⟨#[10]⟩ : ByteArray)))))] [2, 3] [] [slS true (splB (⟨#[10]⟩ : ByteArray) (trsB s (⟨#[10]⟩ : ByteArray))), Bv true] [] [Con Tryz.prog 62 [Sv s, Sv (⟨#[10]⟩ : ByteArray)] true (Sv (trsB s (⟨#[10]⟩ : ByteArray))) ∧ True, Con Tryz.prog 61 [Sv (trsB s (⟨#[10]⟩ : ByteArray)), Sv (⟨#[10]⟩ : ByteArray)] true (slS true (splB (⟨#[10]⟩ : ByteArray) (trsB s (⟨#[10]⟩ : ByteArray)))) ∧ True] ⟨⟨(trimSuffix_ok s (⟨#[10]⟩ : ByteArray) (by omega)), trivial⟩, ⟨(split_ok (trsB s (⟨#[10]⟩ : ByteArray)) (⟨#[10]⟩ : ByteArray) ⟨by have := trsB_size s ⟨#[10]⟩; omega, trivial⟩ rfl), trivial⟩, trivial⟩ ?_
     refine x_ret ?_
     refine xe_end ((splB (⟨#[10]⟩ : ByteArray) (trsB s (⟨#[10]⟩ : ByteArray))), true) (show ((splB (⟨#[10]⟩ : ByteArray) (trsB s (⟨#[10]⟩ : ByteArray))) = (lnR s).1) ∧ (true = (lnR s).2) ∧ (True) from ⟨(by first | (rw [hlb]; done)), (by first | (rw [hlb]; done)), trivial⟩) (trivial) (.tup [slS true (splB (⟨#[10]⟩ : ByteArray) (trsB s (⟨#[10]⟩ : ByteArray))), Bv true]) (by kernel_rfl) (.inl rfl) (fun _ => rfl) (fun _ => (by simp [tagged, taggedL, tagS]))
    have hlb : lnR s = ([], false) := by unfold lnR; rw [if_neg hse, if_neg (by simp [*])]
    refine x_r [(1, .call [(true, .any), (true, .any)] true (Bv false))] [0, 8] [] [Sv s, Bv true] [] [Con Tryz.prog 60 [Sv s, Sv (⟨#[10]⟩ : ByteArray)] true (Bv false) ∧ True] ⟨⟨(con_bool h2 (hasSuffix_ok s (⟨#[10]⟩ : ByteArray) (by omega))), trivial⟩, trivial⟩ ?_
    refine xe_then ?_
    refine x_true rfl ?_
    refine xR [] [2, 3] [] [nilA, Bv false] [] [] trivial ?_
    refine x_ret ?_
    refine xe_ret_then ?_
    refine xe_end (([] : List ByteArray), false) (show (([] : List ByteArray) = (lnR s).1) ∧ (false = (lnR s).2) ∧ (True) from ⟨(by first | (rw [hlb]; done)), (by first | (rw [hlb]; done)), trivial⟩) (trivial) (.tup [nilA, Bv false]) (by kernel_rfl) (.inr ⟨⟨rfl, rfl⟩, ⟨rfl, rfl⟩⟩) (fun _ => rfl) (fun _ => (by simp [tagged, taggedL, tagS]))
  obtain ⟨⟨ls, k⟩, ⟨hh0, hh1, _⟩, hc⟩ := hh
  exact ⟨ls, k, hh0, hh1, hc⟩



-- impl.wordsOf
theorem wordsOf_ok (s : ByteArray) (hz : s.size ≤ 10000000) : Con Tryz.prog 34 [Sv s] true (slS true (splB ⟨#[32]⟩ s)) := by
  refine fn_ok (fn := Tryz.f34) (nt := 5) Tryz.func34 rfl rfl rfl rfl (by simp [taggedL, tagged]) fun B hB => ?_
  refine aR [] [0] [] [Sv s] [] [] hB trivial ?_
  refine aR [(1, .call [(true, .any), (true, .any)] true (slS true (splB (⟨#[32]⟩ : ByteArray) s)))] [2] [] [slS true (splB (⟨#[32]⟩ : ByteArray) s)] [] [Con Tryz.prog 61 [Sv s, Sv (⟨#[32]⟩ : ByteArray)] true (slS true (splB (⟨#[32]⟩ : ByteArray) s)) ∧ True] hB ⟨⟨(split_ok s (⟨#[32]⟩ : ByteArray) ⟨by omega, trivial⟩ rfl), trivial⟩, trivial⟩ ?_
  refine aw_ret ?_
  refine ae_ret hB (slS true (splB (⟨#[32]⟩ : ByteArray) s)) (by kernel_rfl) (.inr ⟨(fun _ => rfl), rfl, (by first | rfl | (simp; done) | (simp; omega) | omega), fun i_ hi_ => .inl (by first | rfl | fail)⟩) rfl (fun _ => (tagS true _))



-- impl.ReadDecimal
set_option maxHeartbeats 2000000 in
theorem dec_calls (n : Int) (h : -9223372036854775808 ≤ n ∧ n ≤ 9223372036854775807) (w : World) (hw : WX w) : Calls Tryz.prog 31 #[.int .i64 n] w fun e w' => e = .returned (.string (decB n)) ∧ Below w.heap.size w w' := by
  go_enter Tryz.func31, Tryz.ntmps31
  go_wp2_with (go_at_call 59; refine (Tryz.strconv_FormatInt_10 n h.1 h.2 w (WX_tab hw)).mono ?_; rintro e w' ⟨rfl, k, os, rfl⟩)
  go_ret
  exact ⟨rfl, Lib.below_grow _ _ (Nat.le_refl _) k os⟩
set_option maxHeartbeats 4000000 in
set_option maxRecDepth 100000 in
theorem readDecT_calls (s : ByteArray) (hz : s.size ≤ 140737488 ∧ True) (w : World) (hw : WX w) : Calls Tryz.prog 35 #[.string s] w fun e w' => e = .returned (.tuple #[.int .i64 (dcN s), .bool (dcB s)]) ∧ Below w.heap.size w w' := by
  by_cases ht : 1 ≤ (Lib.trimPrefix s.data.toList [45]).length ∧ (Lib.trimPrefix s.data.toList [45]).length ≤ 18
  · cases hp : Lib.parseIntB 64 s.data.toList with
    | ok n =>
      have hn := pI_bd hp
      by_cases he : decB n = s
      · have hr := dcB_yes hp ht he
        rw [hr.1, hr.2]
        go_enter Tryz.func35, Tryz.ntmps35
        go_wp2_with (go_at_call 63; refine (Tryz.strings_TrimPrefix s _ w).mono ?_; rintro e w' ⟨rfl, hw'⟩; rw [hw'])
        clear hw'
        go_wp2_with (go_at_call 64; refine (Tryz.strconv_ParseInt_10_at64_ok s (by omega) n hp w).mono ?_; rintro e w2 ⟨rfl, hw2⟩)
        have hb : Below w.heap.size w w2 := by
          rcases hw2 with rfl | ⟨t, rfl⟩
          · exact Below.refl _ _
          · exact Lib.bytesWorld_below _ _ _
        have hx := WX_below hw w2 hb
        clear hw2
        go_wp2_with (go_at_call 31; refine (dec_calls n (by omega) w2 hx).mono ?_; rintro e w3 ⟨rfl, hb3⟩)
        go_ret2
        exact ⟨rfl, hb.trans (hb3.mono hb.size)⟩
      · have hr := dcB_ne hp he
        rw [hr.1, hr.2]
        have hne : ¬ (decB n).toList = s.toList := fun q => he (by
          rw [Lib.toList_data, Lib.toList_data] at q
          apply ByteArray.ext
          exact Array.ext' q)
        have hne2 : ((decB n).toList == s.toList) = false := beq_eq_false_iff_ne.2 hne
        go_enter Tryz.func35, Tryz.ntmps35
        go_wp2_with (go_at_call 63; refine (Tryz.strings_TrimPrefix s _ w).mono ?_; rintro e w' ⟨rfl, hw'⟩; rw [hw'])
        clear hw'
        go_wp2_with (go_at_call 64; refine (Tryz.strconv_ParseInt_10_at64_ok s (by omega) n hp w).mono ?_; rintro e w2 ⟨rfl, hw2⟩)
        have hb : Below w.heap.size w w2 := by
          rcases hw2 with rfl | ⟨t, rfl⟩
          · exact Below.refl _ _
          · exact Lib.bytesWorld_below _ _ _
        have hx := WX_below hw w2 hb
        clear hw2
        go_wp2_with (go_at_call 31; refine (dec_calls n (by omega) w2 hx).mono ?_; rintro e w3 ⟨rfl, hb3⟩)
        go_ret2
        exact ⟨rfl, hb.trans (hb3.mono hb.size)⟩
        all_goals (exfalso; first | contradiction | (simp_all; done))
    | «syntax» =>
      have hr := dcB_bad (s := s) fun n => by rw [hp]; exact fun h => by cases h
      rw [hr.1, hr.2]
      obtain ⟨tp, p, hv⟩ := hw.2.1
      go_enter Tryz.func35, Tryz.ntmps35
      go_wp2_with (go_at_call 63; refine (Tryz.strings_TrimPrefix s _ w).mono ?_; rintro e w' ⟨rfl, hw'⟩; rw [hw'])
      clear hw'
      go_wp2_with (go_at_call 64; refine (Tryz.strconv_ParseInt_10_at64_syntax_var s (by omega) hp tp p w hv).mono ?_; rintro e w2 ⟨N, rfl, _, _, hb⟩)
      go_ret2
      exact ⟨rfl, hb⟩
    | range =>
      have hr := dcB_bad (s := s) fun n => by rw [hp]; exact fun h => by cases h
      rw [hr.1, hr.2]
      obtain ⟨tp, p, hv⟩ := hw.2.2
      go_enter Tryz.func35, Tryz.ntmps35
      go_wp2_with (go_at_call 63; refine (Tryz.strings_TrimPrefix s _ w).mono ?_; rintro e w' ⟨rfl, hw'⟩; rw [hw'])
      clear hw'
      go_wp2_with (go_at_call 64; refine (Tryz.strconv_ParseInt_10_at64_range_var s (by omega) hp tp p w hv).mono ?_; rintro e w2 ⟨N, rfl, _, _, hb⟩)
      go_ret2
      exact ⟨rfl, hb⟩
  · have hr := dcB_len ht
    rw [hr.1, hr.2]
    by_cases h0 : (Lib.trimPrefix s.data.toList [45]).length < 1
    · go_enter Tryz.func35, Tryz.ntmps35
      go_wp2_with (go_at_call 63; refine (Tryz.strings_TrimPrefix s _ w).mono ?_; rintro e w' ⟨rfl, hw'⟩; rw [hw'])
      go_ret2
      exact ⟨rfl, Below.refl _ _⟩
    · have h18 : 18 < (Lib.trimPrefix s.data.toList [45]).length := by omega
      go_enter Tryz.func35, Tryz.ntmps35
      go_wp2_with (go_at_call 63; refine (Tryz.strings_TrimPrefix s _ w).mono ?_; rintro e w' ⟨rfl, hw'⟩; rw [hw'])
      go_ret2
      exact ⟨rfl, Below.refl _ _⟩
theorem readDecT_ok (s : ByteArray) (hz : s.size ≤ 140737488 ∧ True) : Con Tryz.prog 35 [Sv s] true (.tup [I (dcN s), Bv (dcB s)]) :=
  con_of_calls2 (vals := [.string s]) fun w hw => readDecT_calls s hz w hw



def rdSy (l : ByteArray) : Symbol := ⟨at_ (splB ⟨#[32]⟩ l) 0, ⟨dcN (at_ (splB ⟨#[32]⟩ l) 1), dcN (at_ (splB ⟨#[32]⟩ l) 2), dcN (at_ (splB ⟨#[32]⟩ l) 3), dcN (at_ (splB ⟨#[32]⟩ l) 4)⟩⟩
def w5 (l : ByteArray) : Bool := decide ((splB ⟨#[32]⟩ l).length = 5)
def n5 (l : ByteArray) : Bool := w5 l && (dcB (at_ (splB ⟨#[32]⟩ l) 1) && (dcB (at_ (splB ⟨#[32]⟩ l) 2) && (dcB (at_ (splB ⟨#[32]⟩ l) 3) && dcB (at_ (splB ⟨#[32]⟩ l) 4))))
def siC (s : ByteArray) : Prop := (lnR s).2 = true ∧ (∀ i, i < (lnR s).1.length → w5 (at_ (lnR s).1 i) = true) ∧ okSyms ((lnR s).1.map rdSy) = true ∧ syTx ((lnR s).1.map rdSy) = s
open Classical in
noncomputable def siR (s : ByteArray) : List Symbol × Bool := if siC s then ((lnR s).1.map rdSy, true) else ([], false)
theorem si_no {s : ByteArray} (h : ¬ siC s) : siR s = ([], false) := if_neg h
theorem si_yes {s : ByteArray} (h : siC s) : siR s = ((lnR s).1.map rdSy, true) := if_pos h
def ssC (L : List ByteArray) : Prop := at_ L (L.length - 1) = ⟨#[]⟩ ∧ (∀ i, i < L.length - 1 → n5 (at_ L i) = true) ∧ okSyms ((L.take (L.length - 1)).map rdSy) = true
open Classical in
noncomputable def ssR (s : ByteArray) : List Symbol × Bool := if ssC (splB ⟨#[10]⟩ s) then (((splB ⟨#[10]⟩ s).take ((splB ⟨#[10]⟩ s).length - 1)).map rdSy, true) else ([], false)
theorem ss_no {s : ByteArray} (h : ¬ ssC (splB ⟨#[10]⟩ s)) : ssR s = ([], false) := if_neg h
theorem ss_yes {s : ByteArray} (h : ssC (splB ⟨#[10]⟩ s)) : ssR s = (((splB ⟨#[10]⟩ s).take ((splB ⟨#[10]⟩ s).length - 1)).map rdSy, true) := if_pos h
theorem rdSy_sz {ls : List ByteArray} {B : Nat} (h : ∀ l ∈ ls, l.size ≤ B) : ∀ y ∈ ls.map rdSy, y.Label.size ≤ B := fun y hy => by
  obtain ⟨l, hl, rfl⟩ := List.mem_map.1 hy
  exact Nat.le_trans (splB_piece (at_mem (splB_pos 32 l))) (h l hl)


-- impl.ReadSymbols
theorem implReadSymbols_ok (s : ByteArray) (hz : s.size ≤ 100000) : ∃ (v : List Symbol) (c : Bool), (v = (siR s).1) ∧ (c = (siR s).2) ∧ Con Tryz.prog 9 [Sv s] true (.tup [slSymbol true v, Bv c]) := by
  have hh : ∃ r : (List Symbol) × Bool, ((r.1 = (siR s).1) ∧ (r.2 = (siR s).2) ∧ (True)) ∧ CallOK Tryz.prog 9 [Sv s] (lookO []) true (.tup [slSymbol true r.1, Bv r.2]) (lookO []) := by
    refine fn_okX (Φ := fun r : (List Symbol) × Bool => (r.1 = (siR s).1) ∧ (r.2 = (siR s).2) ∧ (True)) [] (fun r => []) (fn := Tryz.f9) (nt := 72) Tryz.func9 rfl rfl (args := [Sv s]) rfl (allcons (.inl ⟨rfl, trivial⟩) allnil) (res := fun r => .tup [slSymbol true r.1, Bv r.2]) ?_
    refine xR [] [0] [] [Sv s] [] [] trivial ?_
    refine x_seq ?_
    obtain ⟨ls_1, k_1, hx1_0, hx1_1, hc1⟩ := linesOfT_ok s (by omega)
    have hlv : ls_1 = (lnR s).1 := hx1_0
    have hlc : k_1 = (lnR s).2 := hx1_1
    have hll := lnR_len s
    rw [← hlv] at hll
    refine x_r [(1, .call [(true, .any)] true (.tup [slS true ls_1, Bv k_1]))] [0, 4, 5] [] [Sv s, slS true ls_1, Bv k_1] [] [Con Tryz.prog 33 [Sv s] true (.tup [slS true ls_1, Bv k_1]) ∧ True] ⟨⟨hc1, trivial⟩, trivial⟩ ?_
    refine xe_then ?_
    refine x_seq ?_
    refine x_seq ?_
    rcases Bool.eq_false_or_eq_true k_1 with h1 | h1
    ·subst h1
     have hc1 : (lnR s).2 = true := by first | exact hlc.symm | (rw [← hlc]; exact h1)
     refine x_r [] [0, 4, 18] [] [Sv s, slS true ls_1, Bv false] [] [] trivial ?_
     refine xe_then ?_
     refine x_false rfl ?_
     refine x_skip ?_
     refine xe_then ?_
     refine xR [] [0, 4, 6] [] [Sv s, slS true ls_1, nilA] [] [] trivial ?_
     refine x_seq ?_
     refine xR [] [0, 6, 19, 20, 21] [] [Sv s, nilA, slS true ls_1, I (ls_1.length : Int), I 0] [] [] trivial ?_
     refine x_block ?_
     refine x_nil 6 706 5 (fun _ => []) (by kernel_rfl) ?_
     refine x_weak [] (T := [(0, Sv s), (6, .arr 706), (19, slS true ls_1), (20, I (ls_1.length : Int)), (21, I 0)]) (O := [(706, tASymbol ([] : List Symbol))]) rfl (⟨.inl rfl, .inl rfl, .inl rfl, .inl rfl, .inl rfl, trivial⟩) (⟨.inr ⟨rfl, (by first | rfl | (simp; done) | (simp; omega) | omega), fun i_ hi_ => absurd hi_ (Nat.not_lt_zero _)⟩, trivial⟩) ?_
     refine x_loop (X := (List Symbol) × Int) (fun x => mkS [(0, Sv s), (6, .arr 706), (19, slS true ls_1), (20, I (ls_1.length : Int)), (21, I x.2)] [(706, tASymbol x.1)]) (fun x => (0 ≤ x.2 ∧ x.2 ≤ (ls_1.length : Int)) ∧ ((x.1.length : Int) = x.2) ∧ (x.1 = (ls_1.take x.2.toNat).map rdSy) ∧ (∀ i_ : Nat, (i_ : Int) < x.2 → w5 (at_ ls_1 i_) = true) ∧ True) (fun x => ((ls_1.length : Int) - x.2).toNat) (([] : List Symbol), 0) rfl (show (0 ≤ (0 : Int) ∧ (0 : Int) ≤ (ls_1.length : Int)) ∧ ((([] : List Symbol).length : Int) = (0 : Int)) ∧ (([] : List Symbol) = (ls_1.take (0 : Int).toNat).map rdSy) ∧ (∀ i_ : Nat, (i_ : Int) < (0 : Int) → w5 (at_ ls_1 i_) = true) ∧ True from ⟨(by omega), (by rfl), (by rfl), (by intro i_ hi_; omega), trivial⟩) (fun x hI => ?_)
     obtain ⟨ys, k⟩ := x
     obtain ⟨hi0, hyl, hys, hall0, _⟩ : (0 ≤ k ∧ k ≤ (ls_1.length : Int)) ∧ ((ys.length : Int) = k) ∧ (ys = (ls_1.take k.toNat).map rdSy) ∧ (∀ i_ : Nat, (i_ : Int) < k → w5 (at_ ls_1 i_) = true) ∧ True := hI
     show XW _ _ _ _ (mkS [(0, Sv s), (6, .arr 706), (19, slS true ls_1), (20, I (ls_1.length : Int)), (21, I k)] [(706, tASymbol ys)]) _ _
     refine x_seq ?_
     by_cases h2 : k < (ls_1.length : Int)
     ·have hi : k.toNat < ls_1.length := by omega
      have hlz := hll.2 _ (at_mem hi)
      have hwl := splB_len 32 (at_ ls_1 k.toNat)
      refine x_r [(0, .dec true)] [0, 6, 19, 20, 21, 22] [706] [Sv s, .arr 706, slS true ls_1, I (ls_1.length : Int), I k, Bv true] [some (tASymbol ys)] [k < (ls_1.length : Int)] ⟨h2, trivial⟩ ?_
      refine xe_then ?_
      refine x_seq ?_
      refine x_true rfl ?_
      refine x_skip ?_
      refine xe_then ?_
      refine x_seq ?_
      refine x_block ?_
      refine xR [] [0, 6, 8, 19, 20, 21] [706] [Sv s, .arr 706, Sv (at_ ls_1 k.toNat), slS true ls_1, I (ls_1.length : Int), I k] [some (tASymbol ys)] [(0 : Int) ≤ k ∧ k < (ls_1.length : Int)] ⟨⟨(by omega), (by omega)⟩, trivial⟩ ?_
      refine xR [(1, .call [(true, .any)] true (slS true (splB ⟨#[32]⟩ (at_ ls_1 k.toNat))))] [0, 6, 9, 19, 20, 21] [706] [Sv s, .arr 706, slS true (splB ⟨#[32]⟩ (at_ ls_1 k.toNat)), slS true ls_1, I (ls_1.length : Int), I k] [some (tASymbol ys)] [Con Tryz.prog 34 [Sv (at_ ls_1 k.toNat)] true (slS true (splB ⟨#[32]⟩ (at_ ls_1 k.toNat))) ∧ True] ⟨⟨(wordsOf_ok (at_ ls_1 k.toNat) (by first | omega | (refine ⟨?_, trivial⟩; first | omega | exact Nat.le_trans (hjz _ (by decide)) (by omega)))), trivial⟩, trivial⟩ ?_
      refine x_seq ?_
      refine x_seq ?_
      by_cases h3 : (((splB ⟨#[32]⟩ (at_ ls_1 k.toNat)).length) : Int) = 5
      ·have hw5 : (splB ⟨#[32]⟩ (at_ ls_1 k.toNat)).length = 5 := by omega
       have hjz := fun j_ (hj_ : j_ < 5) => splB_piece (at_mem (xs := (splB ⟨#[32]⟩ (at_ ls_1 k.toNat))) (i := j_) (by omega))
       have hz1 := hjz 1 (by decide)
       have hz2 := hjz 2 (by decide)
       have hz3 := hjz 3 (by decide)
       have hz4 := hjz 4 (by decide)
       refine x_r [(2, .dec false)] [0, 6, 9, 19, 20, 21, 29] [706] [Sv s, .arr 706, slS true (splB ⟨#[32]⟩ (at_ ls_1 k.toNat)), slS true ls_1, I (ls_1.length : Int), I k, Bv false] [some (tASymbol ys)] [¬ ((((splB ⟨#[32]⟩ (at_ ls_1 k.toNat)).length) : Int) ≠ 5)] ⟨(fun hq => hq h3), trivial⟩ ?_
       refine xe_then ?_
       refine x_false rfl ?_
       refine x_skip ?_
       refine xe_then ?_
       refine xR [(0, .new 10)] [0, 6, 9, 10, 19, 20, 21] [10, 706] [Sv s, .arr 706, slS true (splB ⟨#[32]⟩ (at_ ls_1 k.toNat)), .ref 10 0, slS true ls_1, I (ls_1.length : Int), I k] [some (.box [I 0, I 0, I 0, I 0]), some (tASymbol ys)] [] trivial ?_
       refine x_seq ?_
       refine xR [] [0, 6, 9, 10, 19, 20, 21, 30] [10, 706] [Sv s, .arr 706, slS true (splB ⟨#[32]⟩ (at_ ls_1 k.toNat)), .ref 10 0, slS true ls_1, I (ls_1.length : Int), I k, I 0] [some (.box [I 0, I 0, I 0, I 0]), some (tASymbol ys)] [] trivial ?_
       refine x_block ?_
       refine x_loop (X := Int × Int × Int × Int × Int) (fun x => mkS [(0, Sv s), (6, .arr 706), (9, slS true (splB ⟨#[32]⟩ (at_ ls_1 k.toNat))), (10, .ref 10 0), (19, slS true ls_1), (20, I (ls_1.length : Int)), (21, I k), (30, I x.1)] [(10, .box [I x.2.1, I x.2.2.1, I x.2.2.2.1, I x.2.2.2.2]), (706, tASymbol ys)]) (fun x => (0 ≤ x.1 ∧ x.1 ≤ 4) ∧ (0 < x.1 → x.2.1 = dcN (at_ (splB ⟨#[32]⟩ (at_ ls_1 k.toNat)) 1)) ∧ (1 < x.1 → x.2.2.1 = dcN (at_ (splB ⟨#[32]⟩ (at_ ls_1 k.toNat)) 2)) ∧ (2 < x.1 → x.2.2.2.1 = dcN (at_ (splB ⟨#[32]⟩ (at_ ls_1 k.toNat)) 3)) ∧ (3 < x.1 → x.2.2.2.2 = dcN (at_ (splB ⟨#[32]⟩ (at_ ls_1 k.toNat)) 4)) ∧ True) (fun x => ((4 : Int) - x.1).toNat) (0, 0, 0, 0, 0) rfl (show (0 ≤ (0 : Int) ∧ (0 : Int) ≤ 4) ∧ (0 < (0 : Int) → (0 : Int) = dcN (at_ (splB ⟨#[32]⟩ (at_ ls_1 k.toNat)) 1)) ∧ (1 < (0 : Int) → (0 : Int) = dcN (at_ (splB ⟨#[32]⟩ (at_ ls_1 k.toNat)) 2)) ∧ (2 < (0 : Int) → (0 : Int) = dcN (at_ (splB ⟨#[32]⟩ (at_ ls_1 k.toNat)) 3)) ∧ (3 < (0 : Int) → (0 : Int) = dcN (at_ (splB ⟨#[32]⟩ (at_ ls_1 k.toNat)) 4)) ∧ True from ⟨(by omega), (by intro h_; omega), (by intro h_; omega), (by intro h_; omega), (by intro h_; omega), trivial⟩) (fun x hI => ?_)
       obtain ⟨j, n0, n1, n2, n3⟩ := x
       obtain ⟨hj0, hn0, hn1, hn2, hn3, _⟩ : (0 ≤ j ∧ j ≤ 4) ∧ (0 < j → n0 = dcN (at_ (splB ⟨#[32]⟩ (at_ ls_1 k.toNat)) 1)) ∧ (1 < j → n1 = dcN (at_ (splB ⟨#[32]⟩ (at_ ls_1 k.toNat)) 2)) ∧ (2 < j → n2 = dcN (at_ (splB ⟨#[32]⟩ (at_ ls_1 k.toNat)) 3)) ∧ (3 < j → n3 = dcN (at_ (splB ⟨#[32]⟩ (at_ ls_1 k.toNat)) 4)) ∧ True := hI
       show XW _ _ _ _ (mkS [(0, Sv s), (6, .arr 706), (9, slS true (splB ⟨#[32]⟩ (at_ ls_1 k.toNat))), (10, .ref 10 0), (19, slS true ls_1), (20, I (ls_1.length : Int)), (21, I k), (30, I j)] [(10, .box [I n0, I n1, I n2, I n3]), (706, tASymbol ys)]) _ _
       refine x_seq ?_
       by_cases h4 : j < 4
       ·have hcs : j = 0 ∨ j = 1 ∨ j = 2 ∨ j = 3 := by omega
        rcases hcs with rfl | rfl | rfl | rfl
        ·refine x_r [(0, .dec true)] [0, 6, 9, 10, 19, 20, 21, 30, 31] [10, 706] [Sv s, .arr 706, slS true (splB ⟨#[32]⟩ (at_ ls_1 k.toNat)), .ref 10 0, slS true ls_1, I (ls_1.length : Int), I k, I (0 : Int), Bv true] [some (.box [I n0, I n1, I n2, I n3]), some (tASymbol ys)] [(0 : Int) < 4] ⟨h4, trivial⟩ ?_
         refine xe_then ?_
         refine x_seq ?_
         refine x_true rfl ?_
         refine x_skip ?_
         refine xe_then ?_
         refine x_seq ?_
         refine x_block ?_
         refine xR [] [0, 6, 9, 10, 11, 19, 20, 21, 30] [10, 706] [Sv s, .arr 706, slS true (splB ⟨#[32]⟩ (at_ ls_1 k.toNat)), .ref 10 0, I (0 : Int), slS true ls_1, I (ls_1.length : Int), I k, I (0 : Int)] [some (.box [I n0, I n1, I n2, I n3]), some (tASymbol ys)] [] trivial ?_
         refine x_r [(6, .call [(true, .any)] true (.tup [I (dcN (at_ (splB ⟨#[32]⟩ (at_ ls_1 k.toNat)) (((0 : Int) + 1).toNat))), Bv (dcB (at_ (splB ⟨#[32]⟩ (at_ ls_1 k.toNat)) (((0 : Int) + 1).toNat)))]))] [0, 6, 9, 10, 19, 20, 21, 30] [10, 706] [Sv s, .arr 706, slS true (splB ⟨#[32]⟩ (at_ ls_1 k.toNat)), .ref 10 0, slS true ls_1, I (ls_1.length : Int), I k, I (0 : Int)] [some (.box [I (dcN (at_ (splB ⟨#[32]⟩ (at_ ls_1 k.toNat)) (((0 : Int) + 1).toNat))), I n1, I n2, I n3]), some (tASymbol ys)] [inR .i64 ((0 : Int) + 1), (0 : Int) ≤ ((0 : Int) + 1) ∧ ((0 : Int) + 1) < (((splB ⟨#[32]⟩ (at_ ls_1 k.toNat)).length) : Int), Con Tryz.prog 35 [Sv (at_ (splB ⟨#[32]⟩ (at_ ls_1 k.toNat)) (((0 : Int) + 1).toNat))] true (.tup [I (dcN (at_ (splB ⟨#[32]⟩ (at_ ls_1 k.toNat)) (((0 : Int) + 1).toNat))), Bv (dcB (at_ (splB ⟨#[32]⟩ (at_ ls_1 k.toNat)) (((0 : Int) + 1).toNat)))]) ∧ True, (0 : Int) ≤ (0 : Int) ∧ (0 : Int) < (4 : Int)] ⟨(inR_i64 (by omega) (by omega)), ⟨(by omega), (by omega)⟩, ⟨(readDecT_ok (at_ (splB ⟨#[32]⟩ (at_ ls_1 k.toNat)) (((0 : Int) + 1).toNat)) (by first | omega | (refine ⟨?_, trivial⟩; first | omega | exact Nat.le_trans (hjz _ (by decide)) (by omega)))), trivial⟩, ⟨by decide, by decide⟩, trivial⟩ ?_
         refine xe_block 3 ?_
         refine xe_then ?_
         refine x_r [] [0, 6, 9, 10, 19, 20, 21, 30] [10, 706] [Sv s, .arr 706, slS true (splB ⟨#[32]⟩ (at_ ls_1 k.toNat)), .ref 10 0, slS true ls_1, I (ls_1.length : Int), I k, I ((0 : Int) + 1)] [some (.box [I (dcN (at_ (splB ⟨#[32]⟩ (at_ ls_1 k.toNat)) (((0 : Int) + 1).toNat))), I n1, I n2, I n3]), some (tASymbol ys)] [inR .i64 ((0 : Int) + 1)] ⟨(inR_i64 (by omega) (by omega)), trivial⟩ ?_
         exact xe_again (((0 : Int) + 1), (dcN (at_ (splB ⟨#[32]⟩ (at_ ls_1 k.toNat)) (((0 : Int) + 1).toNat))), n1, n2, n3) rfl (show (0 ≤ ((0 : Int) + 1) ∧ ((0 : Int) + 1) ≤ 4) ∧ (0 < ((0 : Int) + 1) → (dcN (at_ (splB ⟨#[32]⟩ (at_ ls_1 k.toNat)) (((0 : Int) + 1).toNat))) = dcN (at_ (splB ⟨#[32]⟩ (at_ ls_1 k.toNat)) 1)) ∧ (1 < ((0 : Int) + 1) → n1 = dcN (at_ (splB ⟨#[32]⟩ (at_ ls_1 k.toNat)) 2)) ∧ (2 < ((0 : Int) + 1) → n2 = dcN (at_ (splB ⟨#[32]⟩ (at_ ls_1 k.toNat)) 3)) ∧ (3 < ((0 : Int) + 1) → n3 = dcN (at_ (splB ⟨#[32]⟩ (at_ ls_1 k.toNat)) 4)) ∧ True from ⟨(by omega), (by first | (intro _; rfl) | (intro _; exact hn0 (by omega)) | (intro h_; omega)), (by first | (intro _; rfl) | (intro _; exact hn1 (by omega)) | (intro h_; omega)), (by first | (intro _; rfl) | (intro _; exact hn2 (by omega)) | (intro h_; omega)), (by first | (intro _; rfl) | (intro _; exact hn3 (by omega)) | (intro h_; omega)), trivial⟩) (by first | (show (((4 : Int) - ((0 : Int) + 1)).toNat : Nat) < ((4 : Int) - j).toNat; omega) | (dsimp only; omega))
        ·refine x_r [(0, .dec true)] [0, 6, 9, 10, 19, 20, 21, 30, 31] [10, 706] [Sv s, .arr 706, slS true (splB ⟨#[32]⟩ (at_ ls_1 k.toNat)), .ref 10 0, slS true ls_1, I (ls_1.length : Int), I k, I (1 : Int), Bv true] [some (.box [I n0, I n1, I n2, I n3]), some (tASymbol ys)] [(1 : Int) < 4] ⟨h4, trivial⟩ ?_
         refine xe_then ?_
         refine x_seq ?_
         refine x_true rfl ?_
         refine x_skip ?_
         refine xe_then ?_
         refine x_seq ?_
         refine x_block ?_
         refine xR [] [0, 6, 9, 10, 11, 19, 20, 21, 30] [10, 706] [Sv s, .arr 706, slS true (splB ⟨#[32]⟩ (at_ ls_1 k.toNat)), .ref 10 0, I (1 : Int), slS true ls_1, I (ls_1.length : Int), I k, I (1 : Int)] [some (.box [I n0, I n1, I n2, I n3]), some (tASymbol ys)] [] trivial ?_
         refine x_r [(6, .call [(true, .any)] true (.tup [I (dcN (at_ (splB ⟨#[32]⟩ (at_ ls_1 k.toNat)) (((1 : Int) + 1).toNat))), Bv (dcB (at_ (splB ⟨#[32]⟩ (at_ ls_1 k.toNat)) (((1 : Int) + 1).toNat)))]))] [0, 6, 9, 10, 19, 20, 21, 30] [10, 706] [Sv s, .arr 706, slS true (splB ⟨#[32]⟩ (at_ ls_1 k.toNat)), .ref 10 0, slS true ls_1, I (ls_1.length : Int), I k, I (1 : Int)] [some (.box [I n0, I (dcN (at_ (splB ⟨#[32]⟩ (at_ ls_1 k.toNat)) (((1 : Int) + 1).toNat))), I n2, I n3]), some (tASymbol ys)] [inR .i64 ((1 : Int) + 1), (0 : Int) ≤ ((1 : Int) + 1) ∧ ((1 : Int) + 1) < (((splB ⟨#[32]⟩ (at_ ls_1 k.toNat)).length) : Int), Con Tryz.prog 35 [Sv (at_ (splB ⟨#[32]⟩ (at_ ls_1 k.toNat)) (((1 : Int) + 1).toNat))] true (.tup [I (dcN (at_ (splB ⟨#[32]⟩ (at_ ls_1 k.toNat)) (((1 : Int) + 1).toNat))), Bv (dcB (at_ (splB ⟨#[32]⟩ (at_ ls_1 k.toNat)) (((1 : Int) + 1).toNat)))]) ∧ True, (0 : Int) ≤ (1 : Int) ∧ (1 : Int) < (4 : Int)] ⟨(inR_i64 (by omega) (by omega)), ⟨(by omega), (by omega)⟩, ⟨(readDecT_ok (at_ (splB ⟨#[32]⟩ (at_ ls_1 k.toNat)) (((1 : Int) + 1).toNat)) (by first | omega | (refine ⟨?_, trivial⟩; first | omega | exact Nat.le_trans (hjz _ (by decide)) (by omega)))), trivial⟩, ⟨by decide, by decide⟩, trivial⟩ ?_
         refine xe_block 3 ?_
         refine xe_then ?_
         refine x_r [] [0, 6, 9, 10, 19, 20, 21, 30] [10, 706] [Sv s, .arr 706, slS true (splB ⟨#[32]⟩ (at_ ls_1 k.toNat)), .ref 10 0, slS true ls_1, I (ls_1.length : Int), I k, I ((1 : Int) + 1)] [some (.box [I n0, I (dcN (at_ (splB ⟨#[32]⟩ (at_ ls_1 k.toNat)) (((1 : Int) + 1).toNat))), I n2, I n3]), some (tASymbol ys)] [inR .i64 ((1 : Int) + 1)] ⟨(inR_i64 (by omega) (by omega)), trivial⟩ ?_
         exact xe_again (((1 : Int) + 1), n0, (dcN (at_ (splB ⟨#[32]⟩ (at_ ls_1 k.toNat)) (((1 : Int) + 1).toNat))), n2, n3) rfl (show (0 ≤ ((1 : Int) + 1) ∧ ((1 : Int) + 1) ≤ 4) ∧ (0 < ((1 : Int) + 1) → n0 = dcN (at_ (splB ⟨#[32]⟩ (at_ ls_1 k.toNat)) 1)) ∧ (1 < ((1 : Int) + 1) → (dcN (at_ (splB ⟨#[32]⟩ (at_ ls_1 k.toNat)) (((1 : Int) + 1).toNat))) = dcN (at_ (splB ⟨#[32]⟩ (at_ ls_1 k.toNat)) 2)) ∧ (2 < ((1 : Int) + 1) → n2 = dcN (at_ (splB ⟨#[32]⟩ (at_ ls_1 k.toNat)) 3)) ∧ (3 < ((1 : Int) + 1) → n3 = dcN (at_ (splB ⟨#[32]⟩ (at_ ls_1 k.toNat)) 4)) ∧ True from ⟨(by omega), (by first | (intro _; rfl) | (intro _; exact hn0 (by omega)) | (intro h_; omega)), (by first | (intro _; rfl) | (intro _; exact hn1 (by omega)) | (intro h_; omega)), (by first | (intro _; rfl) | (intro _; exact hn2 (by omega)) | (intro h_; omega)), (by first | (intro _; rfl) | (intro _; exact hn3 (by omega)) | (intro h_; omega)), trivial⟩) (by first | (show (((4 : Int) - ((1 : Int) + 1)).toNat : Nat) < ((4 : Int) - j).toNat; omega) | (dsimp only; omega))
        ·refine x_r [(0, .dec true)] [0, 6, 9, 10, 19, 20, 21, 30, 31] [10, 706] [Sv s, .arr 706, slS true (splB ⟨#[32]⟩ (at_ ls_1 k.toNat)), .ref 10 0, slS true ls_1, I (ls_1.length : Int), I k, I (2 : Int), Bv true] [some (.box [I n0, I n1, I n2, I n3]), some (tASymbol ys)] [(2 : Int) < 4] ⟨h4, trivial⟩ ?_
         refine xe_then ?_
         refine x_seq ?_
         refine x_true rfl ?_
         refine x_skip ?_
         refine xe_then ?_
         refine x_seq ?_
         refine x_block ?_
         refine xR [] [0, 6, 9, 10, 11, 19, 20, 21, 30] [10, 706] [Sv s, .arr 706, slS true (splB ⟨#[32]⟩ (at_ ls_1 k.toNat)), .ref 10 0, I (2 : Int), slS true ls_1, I (ls_1.length : Int), I k, I (2 : Int)] [some (.box [I n0, I n1, I n2, I n3]), some (tASymbol ys)] [] trivial ?_
         refine x_r [(6, .call [(true, .any)] true (.tup [I (dcN (at_ (splB ⟨#[32]⟩ (at_ ls_1 k.toNat)) (((2 : Int) + 1).toNat))), Bv (dcB (at_ (splB ⟨#[32]⟩ (at_ ls_1 k.toNat)) (((2 : Int) + 1).toNat)))]))] [0, 6, 9, 10, 19, 20, 21, 30] [10, 706] [Sv s, .arr 706, slS true (splB ⟨#[32]⟩ (at_ ls_1 k.toNat)), .ref 10 0, slS true ls_1, I (ls_1.length : Int), I k, I (2 : Int)] [some (.box [I n0, I n1, I (dcN (at_ (splB ⟨#[32]⟩ (at_ ls_1 k.toNat)) (((2 : Int) + 1).toNat))), I n3]), some (tASymbol ys)] [inR .i64 ((2 : Int) + 1), (0 : Int) ≤ ((2 : Int) + 1) ∧ ((2 : Int) + 1) < (((splB ⟨#[32]⟩ (at_ ls_1 k.toNat)).length) : Int), Con Tryz.prog 35 [Sv (at_ (splB ⟨#[32]⟩ (at_ ls_1 k.toNat)) (((2 : Int) + 1).toNat))] true (.tup [I (dcN (at_ (splB ⟨#[32]⟩ (at_ ls_1 k.toNat)) (((2 : Int) + 1).toNat))), Bv (dcB (at_ (splB ⟨#[32]⟩ (at_ ls_1 k.toNat)) (((2 : Int) + 1).toNat)))]) ∧ True, (0 : Int) ≤ (2 : Int) ∧ (2 : Int) < (4 : Int)] ⟨(inR_i64 (by omega) (by omega)), ⟨(by omega), (by omega)⟩, ⟨(readDecT_ok (at_ (splB ⟨#[32]⟩ (at_ ls_1 k.toNat)) (((2 : Int) + 1).toNat)) (by first | omega | (refine ⟨?_, trivial⟩; first | omega | exact Nat.le_trans (hjz _ (by decide)) (by omega)))), trivial⟩, ⟨by decide, by decide⟩, trivial⟩ ?_
         refine xe_block 3 ?_
         refine xe_then ?_
         refine x_r [] [0, 6, 9, 10, 19, 20, 21, 30] [10, 706] [Sv s, .arr 706, slS true (splB ⟨#[32]⟩ (at_ ls_1 k.toNat)), .ref 10 0, slS true ls_1, I (ls_1.length : Int), I k, I ((2 : Int) + 1)] [some (.box [I n0, I n1, I (dcN (at_ (splB ⟨#[32]⟩ (at_ ls_1 k.toNat)) (((2 : Int) + 1).toNat))), I n3]), some (tASymbol ys)] [inR .i64 ((2 : Int) + 1)] ⟨(inR_i64 (by omega) (by omega)), trivial⟩ ?_
         exact xe_again (((2 : Int) + 1), n0, n1, (dcN (at_ (splB ⟨#[32]⟩ (at_ ls_1 k.toNat)) (((2 : Int) + 1).toNat))), n3) rfl (show (0 ≤ ((2 : Int) + 1) ∧ ((2 : Int) + 1) ≤ 4) ∧ (0 < ((2 : Int) + 1) → n0 = dcN (at_ (splB ⟨#[32]⟩ (at_ ls_1 k.toNat)) 1)) ∧ (1 < ((2 : Int) + 1) → n1 = dcN (at_ (splB ⟨#[32]⟩ (at_ ls_1 k.toNat)) 2)) ∧ (2 < ((2 : Int) + 1) → (dcN (at_ (splB ⟨#[32]⟩ (at_ ls_1 k.toNat)) (((2 : Int) + 1).toNat))) = dcN (at_ (splB ⟨#[32]⟩ (at_ ls_1 k.toNat)) 3)) ∧ (3 < ((2 : Int) + 1) → n3 = dcN (at_ (splB ⟨#[32]⟩ (at_ ls_1 k.toNat)) 4)) ∧ True from ⟨(by omega), (by first | (intro _; rfl) | (intro _; exact hn0 (by omega)) | (intro h_; omega)), (by first | (intro _; rfl) | (intro _; exact hn1 (by omega)) | (intro h_; omega)), (by first | (intro _; rfl) | (intro _; exact hn2 (by omega)) | (intro h_; omega)), (by first | (intro _; rfl) | (intro _; exact hn3 (by omega)) | (intro h_; omega)), trivial⟩) (by first | (show (((4 : Int) - ((2 : Int) + 1)).toNat : Nat) < ((4 : Int) - j).toNat; omega) | (dsimp only; omega))
        ·refine x_r [(0, .dec true)] [0, 6, 9, 10, 19, 20, 21, 30, 31] [10, 706] [Sv s, .arr 706, slS true (splB ⟨#[32]⟩ (at_ ls_1 k.toNat)), .ref 10 0, slS true ls_1, I (ls_1.length : Int), I k, I (3 : Int), Bv true] [some (.box [I n0, I n1, I n2, I n3]), some (tASymbol ys)] [(3 : Int) < 4] ⟨h4, trivial⟩ ?_
         refine xe_then ?_
         refine x_seq ?_
         refine x_true rfl ?_
         refine x_skip ?_
         refine xe_then ?_
         refine x_seq ?_
         refine x_block ?_
         refine xR [] [0, 6, 9, 10, 11, 19, 20, 21, 30] [10, 706] [Sv s, .arr 706, slS true (splB ⟨#[32]⟩ (at_ ls_1 k.toNat)), .ref 10 0, I (3 : Int), slS true ls_1, I (ls_1.length : Int), I k, I (3 : Int)] [some (.box [I n0, I n1, I n2, I n3]), some (tASymbol ys)] [] trivial ?_
         refine x_r [(6, .call [(true, .any)] true (.tup [I (dcN (at_ (splB ⟨#[32]⟩ (at_ ls_1 k.toNat)) (((3 : Int) + 1).toNat))), Bv (dcB (at_ (splB ⟨#[32]⟩ (at_ ls_1 k.toNat)) (((3 : Int) + 1).toNat)))]))] [0, 6, 9, 10, 19, 20, 21, 30] [10, 706] [Sv s, .arr 706, slS true (splB ⟨#[32]⟩ (at_ ls_1 k.toNat)), .ref 10 0, slS true ls_1, I (ls_1.length : Int), I k, I (3 : Int)] [some (.box [I n0, I n1, I n2, I (dcN (at_ (splB ⟨#[32]⟩ (at_ ls_1 k.toNat)) (((3 : Int) + 1).toNat)))]), some (tASymbol ys)] [inR .i64 ((3 : Int) + 1), (0 : Int) ≤ ((3 : Int) + 1) ∧ ((3 : Int) + 1) < (((splB ⟨#[32]⟩ (at_ ls_1 k.toNat)).length) : Int), Con Tryz.prog 35 [Sv (at_ (splB ⟨#[32]⟩ (at_ ls_1 k.toNat)) (((3 : Int) + 1).toNat))] true (.tup [I (dcN (at_ (splB ⟨#[32]⟩ (at_ ls_1 k.toNat)) (((3 : Int) + 1).toNat))), Bv (dcB (at_ (splB ⟨#[32]⟩ (at_ ls_1 k.toNat)) (((3 : Int) + 1).toNat)))]) ∧ True, (0 : Int) ≤ (3 : Int) ∧ (3 : Int) < (4 : Int)] ⟨(inR_i64 (by omega) (by omega)), ⟨(by omega), (by omega)⟩, ⟨(readDecT_ok (at_ (splB ⟨#[32]⟩ (at_ ls_1 k.toNat)) (((3 : Int) + 1).toNat)) (by first | omega | (refine ⟨?_, trivial⟩; first | omega | exact Nat.le_trans (hjz _ (by decide)) (by omega)))), trivial⟩, ⟨by decide, by decide⟩, trivial⟩ ?_
         refine xe_block 3 ?_
         refine xe_then ?_
         refine x_r [] [0, 6, 9, 10, 19, 20, 21, 30] [10, 706] [Sv s, .arr 706, slS true (splB ⟨#[32]⟩ (at_ ls_1 k.toNat)), .ref 10 0, slS true ls_1, I (ls_1.length : Int), I k, I ((3 : Int) + 1)] [some (.box [I n0, I n1, I n2, I (dcN (at_ (splB ⟨#[32]⟩ (at_ ls_1 k.toNat)) (((3 : Int) + 1).toNat)))]), some (tASymbol ys)] [inR .i64 ((3 : Int) + 1)] ⟨(inR_i64 (by omega) (by omega)), trivial⟩ ?_
         exact xe_again (((3 : Int) + 1), n0, n1, n2, (dcN (at_ (splB ⟨#[32]⟩ (at_ ls_1 k.toNat)) (((3 : Int) + 1).toNat)))) rfl (show (0 ≤ ((3 : Int) + 1) ∧ ((3 : Int) + 1) ≤ 4) ∧ (0 < ((3 : Int) + 1) → n0 = dcN (at_ (splB ⟨#[32]⟩ (at_ ls_1 k.toNat)) 1)) ∧ (1 < ((3 : Int) + 1) → n1 = dcN (at_ (splB ⟨#[32]⟩ (at_ ls_1 k.toNat)) 2)) ∧ (2 < ((3 : Int) + 1) → n2 = dcN (at_ (splB ⟨#[32]⟩ (at_ ls_1 k.toNat)) 3)) ∧ (3 < ((3 : Int) + 1) → (dcN (at_ (splB ⟨#[32]⟩ (at_ ls_1 k.toNat)) (((3 : Int) + 1).toNat))) = dcN (at_ (splB ⟨#[32]⟩ (at_ ls_1 k.toNat)) 4)) ∧ True from ⟨(by omega), (by first | (intro _; rfl) | (intro _; exact hn0 (by omega)) | (intro h_; omega)), (by first | (intro _; rfl) | (intro _; exact hn1 (by omega)) | (intro h_; omega)), (by first | (intro _; rfl) | (intro _; exact hn2 (by omega)) | (intro h_; omega)), (by first | (intro _; rfl) | (intro _; exact hn3 (by omega)) | (intro h_; omega)), trivial⟩) (by first | (show (((4 : Int) - ((3 : Int) + 1)).toNat : Nat) < ((4 : Int) - j).toNat; omega) | (dsimp only; omega))
       have hj4 : j = 4 := by omega
       have hsy_ : Symbol.mk (at_ (splB ⟨#[32]⟩ (at_ ls_1 k.toNat)) 0) (Box.mk n0 n1 n2 n3) = rdSy (at_ ls_1 k.toNat) := by unfold rdSy; rw [hn0 (by omega), hn1 (by omega), hn2 (by omega), hn3 (by omega)]
       refine x_r [(0, .dec false)] [0, 6, 9, 10, 19, 20, 21, 30, 31] [10, 706] [Sv s, .arr 706, slS true (splB ⟨#[32]⟩ (at_ ls_1 k.toNat)), .ref 10 0, slS true ls_1, I (ls_1.length : Int), I k, I j, Bv false] [some (.box [I n0, I n1, I n2, I n3]), some (tASymbol ys)] [¬ (j < 4)] ⟨h4, trivial⟩ ?_
       refine xe_then ?_
       refine x_seq ?_
       refine x_false rfl ?_
       refine x_exit ?_
       refine xe_exit_then ?_
       refine xe_loop_exit ?_
       refine xe_exit_same ?_
       refine xe_then ?_
       refine x_r [(14, .new 59), (15, .new 60)] [0, 6, 19, 20, 21] [60] [Sv s, .arr 60, slS true ls_1, I (ls_1.length : Int), I k] [some (.arr 5 (ys.length + 1) (catF ys.length (fSymbol ys) (litF [Sv (at_ (splB ⟨#[32]⟩ (at_ ls_1 k.toNat)) 0), I n0, I n1, I n2, I n3] 5)))] [(0 : Int) ≤ 0 ∧ 0 < (((splB ⟨#[32]⟩ (at_ ls_1 k.toNat)).length) : Int), (0 : Int) ≤ 0 ∧ 0 < (4 : Int), (0 : Int) ≤ 1 ∧ 1 < (4 : Int), (0 : Int) ≤ 2 ∧ 2 < (4 : Int), (0 : Int) ≤ 3 ∧ 3 < (4 : Int), (ys.length + 1) * 48 ≤ 140737488355328] ⟨⟨(by omega), (by omega)⟩, ⟨by decide, by decide⟩, ⟨by decide, by decide⟩, ⟨by decide, by decide⟩, ⟨by decide, by decide⟩, (by omega), trivial⟩ ?_
       refine xe_block 1 ?_
       refine xe_then ?_
       refine x_r [] [0, 6, 19, 20, 21] [60] [Sv s, .arr 60, slS true ls_1, I (ls_1.length : Int), I (k + 1)] [some (.arr 5 (ys.length + 1) (catF ys.length (fSymbol ys) (litF [Sv (at_ (splB ⟨#[32]⟩ (at_ ls_1 k.toNat)) 0), I n0, I n1, I n2, I n3] 5)))] [inR .i64 (k + 1)] ⟨(inR_i64 (by omega) (by omega)), trivial⟩ ?_
       refine xe_weak [(706, 60)] (T := [(0, Sv s), (6, .arr 706), (19, slS true ls_1), (20, I (ls_1.length : Int)), (21, I (k + 1))]) (O := [(706, tASymbol (ys ++ [(Symbol.mk (at_ (splB ⟨#[32]⟩ (at_ ls_1 k.toNat)) 0) (Box.mk n0 n1 n2 n3))]))]) rfl (⟨.inl rfl, .inl rfl, .inl rfl, .inl rfl, .inl rfl, trivial⟩) (⟨.inr ⟨rfl, (by first | rfl | (simp; done) | (simp; omega) | omega), fun i_ hi_ => .inl (cat_snoc (enc := cSymbol) (xs := ys) rfl i_ hi_)⟩, trivial⟩) (xe_again ((ys ++ [(Symbol.mk (at_ (splB ⟨#[32]⟩ (at_ ls_1 k.toNat)) 0) (Box.mk n0 n1 n2 n3))]), (k + 1)) rfl (show (0 ≤ (k + 1) ∧ (k + 1) ≤ (ls_1.length : Int)) ∧ (((ys ++ [(Symbol.mk (at_ (splB ⟨#[32]⟩ (at_ ls_1 k.toNat)) 0) (Box.mk n0 n1 n2 n3))]).length : Int) = (k + 1)) ∧ ((ys ++ [(Symbol.mk (at_ (splB ⟨#[32]⟩ (at_ ls_1 k.toNat)) 0) (Box.mk n0 n1 n2 n3))]) = (ls_1.take (k + 1).toNat).map rdSy) ∧ (∀ i_ : Nat, (i_ : Int) < (k + 1) → w5 (at_ ls_1 i_) = true) ∧ True from ⟨(by omega), (by simp; omega), (by rw [hys]; exact (mapTake_succ (by omega) hi hsy_).symm), (by intro i_ hi_; by_cases ej : i_ = k.toNat; (subst ej; exact decide_eq_true hw5); exact hall0 i_ (by omega)), trivial⟩) (by first | (show (((ls_1.length : Int) - (k + 1)).toNat : Nat) < ((ls_1.length : Int) - k).toNat; omega) | (dsimp only; omega)))
      have hst := si_no (s := s) (fun q => by have q1 := q.2.1 k.toNat (by rw [← hlv]; exact hi); rw [← hlv] at q1; exact h3 (by have := of_decide_eq_true q1; omega))
      refine x_r [(2, .dec true)] [0, 6, 9, 19, 20, 21, 29] [706] [Sv s, .arr 706, slS true (splB ⟨#[32]⟩ (at_ ls_1 k.toNat)), slS true ls_1, I (ls_1.length : Int), I k, Bv true] [some (tASymbol ys)] [(((splB ⟨#[32]⟩ (at_ ls_1 k.toNat)).length) : Int) ≠ 5] ⟨h3, trivial⟩ ?_
      refine xe_then ?_
      refine x_true rfl ?_
      refine xR [] [2, 3] [] [nilA, Bv false] [] [] trivial ?_
      refine x_ret ?_
      refine xe_ret_then (xe_ret_block (xe_ret_then (xe_loop_ret (xe_ret_block (xe_ret_then ?_)))))
      refine xe_end (([] : List Symbol), false) (show (([] : List Symbol) = (siR s).1) ∧ (false = (siR s).2) ∧ (True) from ⟨(by first | (rw [hst]; done) | (rw [hst]; exact hfin) | (rw [hst, ← hfin]; done)), (by first | (rw [hst]; done) | (rw [hst]; exact hfin) | (rw [hst, ← hfin]; done)), trivial⟩) (trivial) (.tup [nilA, Bv false]) (by kernel_rfl) (.inr ⟨⟨rfl, rfl⟩, ⟨rfl, rfl⟩⟩) (fun _ => rfl) (fun _ => (by simp [tagged, taggedL, tagSymbol]))
     have hfin : ys = (lnR s).1.map rdSy := by rw [hys, List.take_of_length_le (by omega), hlv]
     have hsz9 : ∀ y ∈ ys, y.Label.size ≤ 9223372036854775807 := fun y hy => by have q := rdSy_sz (lnR_len s).2 y (by rw [← hfin]; exact hy); omega
     refine x_r [(0, .dec false)] [0, 6, 19, 20, 21, 22] [706] [Sv s, .arr 706, slS true ls_1, I (ls_1.length : Int), I k, Bv false] [some (tASymbol ys)] [¬ (k < (ls_1.length : Int))] ⟨h2, trivial⟩ ?_
     refine xe_then ?_
     refine x_seq ?_
     refine x_false rfl ?_
     refine x_exit ?_
     refine xe_exit_then ?_
     refine xe_loop_exit ?_
     refine xe_exit_same ?_
     refine xe_then ?_
     refine x_seq ?_
     refine x_seq ?_
     rcases Bool.eq_false_or_eq_true (okSyms ys) with h5 | h5
     ·have hc2 : okSyms ((lnR s).1.map rdSy) = true := by rw [← hfin]; exact h5
      by_cases h6 : (syTx ys) = s
      ·have hst := si_yes (s := s) ⟨hc1, fun i_ hi_ => by rw [← hlv] at hi_ ⊢; exact hall0 i_ (by omega), hc2, by rw [← hfin]; exact h6⟩
       refine x_r [(1, .call [(false, slSymbol false ys)] true (Bv true)), (5, .call [(false, slSymbol false ys)] true (Sv (syTx ys))), (7, .dec false)] [6, 70] [706] [.arr 706, Bv false] [some (tASymbol ys)] [Con Tryz.prog 23 [slSymbol false ys] true (Bv true) ∧ ((false = true → true = true) ∧ 5 = 5 ∧ ys.length = ys.length ∧ ∀ i_, i_ < ys.length → (fSymbol ys) i_ = (fSymbol ys) i_ ∨ (AV.idsL ((fSymbol ys) i_) = [] ∧ leL (fun _ => none) false ((fSymbol ys) i_) ((fSymbol ys) i_))) ∧ True, Con Tryz.prog 8 [slSymbol false ys] true (Sv (syTx ys)) ∧ ((false = true → true = true) ∧ 5 = 5 ∧ ys.length = ys.length ∧ ∀ i_, i_ < ys.length → (fSymbol ys) i_ = (fSymbol ys) i_ ∨ (AV.idsL ((fSymbol ys) i_) = [] ∧ leL (fun _ => none) false ((fSymbol ys) i_) ((fSymbol ys) i_))) ∧ True, ¬ ((syTx ys) ≠ s)] ⟨⟨(con_bool h5 (ValidSymbols_ok ys hsz9)), ⟨(fun h => by cases h), rfl, rfl, fun i _ => .inl rfl⟩, trivial⟩, ⟨(implSymbolsText_ok ys hsz9), ⟨(fun h => by cases h), rfl, rfl, fun i _ => .inl rfl⟩, trivial⟩, (fun hq => hq h6), trivial⟩ ?_
       refine xe_then ?_
       refine x_false rfl ?_
       refine x_skip ?_
       refine xe_then ?_
       refine xR [] [2, 3] [706] [.arr 706, Bv true] [some (tASymbol ys)] [] trivial ?_
       refine x_ret ?_
       refine xe_end (ys, true) (show (ys = (siR s).1) ∧ (true = (siR s).2) ∧ (True) from ⟨(by first | (rw [hst]; done) | (rw [hst]; exact hfin) | (rw [hst, ← hfin]; done)), (by first | (rw [hst]; done) | (rw [hst]; exact hfin) | (rw [hst, ← hfin]; done)), trivial⟩) (trivial) (.tup [.arr 706, Bv true]) (by kernel_rfl) (.inr ⟨⟨(fun _ => rfl), rfl, rfl, fun i _ => .inl rfl⟩, ⟨rfl, rfl⟩⟩) (fun _ => rfl) (fun _ => (by simp [tagged, taggedL, tagSymbol]))
      have hst := si_no (s := s) (fun q => by have q1 := q.2.2.2; rw [← hfin] at q1; exact h6 q1)
      refine x_r [(1, .call [(false, slSymbol false ys)] true (Bv true)), (5, .call [(false, slSymbol false ys)] true (Sv (syTx ys))), (7, .dec true)] [6, 70] [706] [.arr 706, Bv true] [some (tASymbol ys)] [Con Tryz.prog 23 [slSymbol false ys] true (Bv true) ∧ ((false = true → true = true) ∧ 5 = 5 ∧ ys.length = ys.length ∧ ∀ i_, i_ < ys.length → (fSymbol ys) i_ = (fSymbol ys) i_ ∨ (AV.idsL ((fSymbol ys) i_) = [] ∧ leL (fun _ => none) false ((fSymbol ys) i_) ((fSymbol ys) i_))) ∧ True, Con Tryz.prog 8 [slSymbol false ys] true (Sv (syTx ys)) ∧ ((false = true → true = true) ∧ 5 = 5 ∧ ys.length = ys.length ∧ ∀ i_, i_ < ys.length → (fSymbol ys) i_ = (fSymbol ys) i_ ∨ (AV.idsL ((fSymbol ys) i_) = [] ∧ leL (fun _ => none) false ((fSymbol ys) i_) ((fSymbol ys) i_))) ∧ True, (syTx ys) ≠ s] ⟨⟨(con_bool h5 (ValidSymbols_ok ys hsz9)), ⟨(fun h => by cases h), rfl, rfl, fun i _ => .inl rfl⟩, trivial⟩, ⟨(implSymbolsText_ok ys hsz9), ⟨(fun h => by cases h), rfl, rfl, fun i _ => .inl rfl⟩, trivial⟩, h6, trivial⟩ ?_
      refine xe_then ?_
      refine x_true rfl ?_
      refine xR [] [2, 3] [] [nilA, Bv false] [] [] trivial ?_
      refine x_ret ?_
      refine xe_ret_then ?_
      refine xe_end (([] : List Symbol), false) (show (([] : List Symbol) = (siR s).1) ∧ (false = (siR s).2) ∧ (True) from ⟨(by first | (rw [hst]; done) | (rw [hst]; exact hfin) | (rw [hst, ← hfin]; done)), (by first | (rw [hst]; done) | (rw [hst]; exact hfin) | (rw [hst, ← hfin]; done)), trivial⟩) (trivial) (.tup [nilA, Bv false]) (by kernel_rfl) (.inr ⟨⟨rfl, rfl⟩, ⟨rfl, rfl⟩⟩) (fun _ => rfl) (fun _ => (by simp [tagged, taggedL, tagSymbol]))
     have hst := si_no (s := s) (fun q => by have q1 := q.2.2.1; rw [← hfin] at q1; rw [h5] at q1; cases q1)
     refine x_r [(1, .call [(false, slSymbol false ys)] true (Bv false))] [6, 70] [706] [.arr 706, Bv true] [some (tASymbol ys)] [Con Tryz.prog 23 [slSymbol false ys] true (Bv false) ∧ ((false = true → true = true) ∧ 5 = 5 ∧ ys.length = ys.length ∧ ∀ i_, i_ < ys.length → (fSymbol ys) i_ = (fSymbol ys) i_ ∨ (AV.idsL ((fSymbol ys) i_) = [] ∧ leL (fun _ => none) false ((fSymbol ys) i_) ((fSymbol ys) i_))) ∧ True] ⟨⟨(con_bool h5 (ValidSymbols_ok ys hsz9)), ⟨(fun h => by cases h), rfl, rfl, fun i _ => .inl rfl⟩, trivial⟩, trivial⟩ ?_
     refine xe_then ?_
     refine x_true rfl ?_
     refine xR [] [2, 3] [] [nilA, Bv false] [] [] trivial ?_
     refine x_ret ?_
     refine xe_ret_then ?_
     refine xe_end (([] : List Symbol), false) (show (([] : List Symbol) = (siR s).1) ∧ (false = (siR s).2) ∧ (True) from ⟨(by first | (rw [hst]; done) | (rw [hst]; exact hfin) | (rw [hst, ← hfin]; done)), (by first | (rw [hst]; done) | (rw [hst]; exact hfin) | (rw [hst, ← hfin]; done)), trivial⟩) (trivial) (.tup [nilA, Bv false]) (by kernel_rfl) (.inr ⟨⟨rfl, rfl⟩, ⟨rfl, rfl⟩⟩) (fun _ => rfl) (fun _ => (by simp [tagged, taggedL, tagSymbol]))
    subst h1
    have hst := si_no (s := s) (fun q => by have q1 := q.1; rw [← hlc] at q1; first | cases q1 | exact h1 q1)
    refine x_r [] [0, 4, 18] [] [Sv s, slS true ls_1, Bv true] [] [] trivial ?_
    refine xe_then ?_
    refine x_true rfl ?_
    refine xR [] [2, 3] [] [nilA, Bv false] [] [] trivial ?_
    refine x_ret ?_
    refine xe_ret_then ?_
    refine xe_end (([] : List Symbol), false) (show (([] : List Symbol) = (siR s).1) ∧ (false = (siR s).2) ∧ (True) from ⟨(by first | (rw [hst]; done) | (rw [hst]; exact hfin) | (rw [hst, ← hfin]; done)), (by first | (rw [hst]; done) | (rw [hst]; exact hfin) | (rw [hst, ← hfin]; done)), trivial⟩) (trivial) (.tup [nilA, Bv false]) (by kernel_rfl) (.inr ⟨⟨rfl, rfl⟩, ⟨rfl, rfl⟩⟩) (fun _ => rfl) (fun _ => (by simp [tagged, taggedL, tagSymbol]))
  obtain ⟨⟨v, c⟩, ⟨hh0, hh1, _⟩, hc⟩ := hh
  exact ⟨v, c, hh0, hh1, hc⟩



-- spec.l01Dec
theorem l01Dec_ok (n : Int) (hn : -9223372036854775808 ≤ n ∧ n ≤ 9223372036854775807) : Con Tryz.prog 65 [I n] true (Sv (decB n)) := by
  have hdl := digs_len 19 n.natAbs (by omega)
  refine fn_ok (fn := Tryz.f65) (nt := 34) Tryz.func65 rfl rfl rfl rfl (by simp [taggedL, tagged]) fun B hB => ?_
  refine aR [] [0] [] [I n] [] [] hB trivial ?_
  refine aR [(0, .new 6)] [0, 3] [6] [I n, .arr 6] [some (.arr 1 0 (litF [] 1))] [] hB trivial ?_
  refine aw_seq ?_
  refine aR [] [0, 3, 4] [6] [I n, .arr 6, I n] [some (.arr 1 0 (litF [] 1))] [] hB trivial ?_
  refine aw_block ?_
  refine aw_weak hB [] (T := [(0, I n), (3, .arr 6), (4, I n)]) (O := [(6, tAU8 ([] : List Int))]) rfl (⟨.inl rfl, .inl rfl, .inl rfl, trivial⟩) (⟨.inr ⟨rfl, (by first | rfl | (simp; done) | (simp; omega) | omega), fun i_ hi_ => absurd hi_ (Nat.not_lt_zero _)⟩, trivial⟩) ?_
  refine aw_loop (fun gn gσ => ∃ (out : List Int) (k : Int), gn = k.natAbs ∧ (digs k.natAbs ++ out = digs n.natAbs) ∧ (k.natAbs ≤ n.natAbs) ∧ gσ = mkS [(0, I n), (3, .arr 6), (4, I k)] [(6, tAU8 out)]) (n.natAbs) ⟨([] : List Int), n, rfl, (by simp), (by omega), rfl⟩ (fun gn gσ hI => ?_)
  obtain ⟨out, k, rfl, hd1, hd2, rfl⟩ := hI
  refine aw_seq ?_
  refine aw_seq ?_
  by_cases h1 : k = 0
  ·rw [h1] at hd1
   have hfin : out = digs n.natAbs := by simpa [digs_zero] using hd1
   subst hfin
   refine aw_r [(1, .dec false)] [0, 3, 4, 9] [6] [I n, .arr 6, I k, Bv false] [some (tAU8 (digs n.natAbs))] [¬ (k ≠ 0)] hB ⟨(fun hq => hq h1), trivial⟩ ?_
   refine ae_then ?_
   refine aw_false rfl ?_
   refine aw_exit ?_
   refine ae_exit_then ?_
   refine ae_exit_then ?_
   refine ae_exit_same ?_
   refine ae_then ?_
   refine aw_seq ?_
   refine aw_seq ?_
   by_cases h2 : (((digs n.natAbs).length) : Int) = 0
   ·have hn0 : n = 0 := by have := digs_nil (u := n.natAbs) (by omega); omega
    refine aw_r [(2, .dec true)] [0, 3, 26] [6] [I n, .arr 6, Bv true] [some (tAU8 (digs n.natAbs))] [(((digs n.natAbs).length) : Int) = 0] hB ⟨h2, trivial⟩ ?_
    refine ae_then ?_
    refine aw_true rfl ?_
    refine aR [] [2] [] [Sv (⟨#[48]⟩ : ByteArray)] [] [] hB trivial ?_
    refine aw_ret ?_
    refine ae_ret_then ?_
    refine ae_ret hB (Sv (⟨#[48]⟩ : ByteArray)) (by kernel_rfl) (.inl (by first | (rw [hn0, decB_zero]; done) | (rw [decB_neg (by omega)]; done) | (rw [decB_pos (by omega)]; done))) rfl (fun _ => trivial)
   have hn0 : n ≠ 0 := by rintro rfl; exact h2 (by simp [digs_zero])
   refine aw_r [(2, .dec false)] [0, 3, 26] [6] [I n, .arr 6, Bv false] [some (tAU8 (digs n.natAbs))] [¬ ((((digs n.natAbs).length) : Int) = 0)] hB ⟨h2, trivial⟩ ?_
   refine ae_then ?_
   refine aw_false rfl ?_
   refine aw_skip ?_
   refine ae_then ?_
   refine aw_seq ?_
   refine aw_seq ?_
   by_cases h3 : n < 0
   ·refine aw_r [(1, .dec true)] [3, 28] [6] [.arr 6, Bv true] [some (tAU8 (digs n.natAbs))] [n < 0] hB ⟨h3, trivial⟩ ?_
    refine ae_then ?_
    refine aw_true rfl ?_
    refine aR [(1, .as (Sv (strB (digs n.natAbs))))] [2] [] [Sv ((⟨#[45]⟩ : ByteArray) ++ (strB (digs n.natAbs)))] [] [(strB (digs n.natAbs)).size = (digs n.natAbs).length ∧ ∀ i_, i_ < (digs n.natAbs).length → (fU8 (digs n.natAbs)) i_ = byteF (strB (digs n.natAbs)) i_, (⟨#[45]⟩ : ByteArray).size + (strB (digs n.natAbs)).size ≤ 9223372036854775807] hB ⟨(strB_ok (digs_bd _)), (by have hq := strB_size (digs n.natAbs); have hq2 : (⟨#[45]⟩ : ByteArray).size = 1 := rfl; omega), trivial⟩ ?_
    refine aw_ret ?_
    refine ae_ret_then ?_
    refine ae_ret hB (Sv ((⟨#[45]⟩ : ByteArray) ++ (strB (digs n.natAbs)))) (by kernel_rfl) (.inl (by first | (rw [hn0, decB_zero]; done) | (rw [decB_neg (by omega)]; done) | (rw [decB_pos (by omega)]; done))) rfl (fun _ => trivial)
   refine aw_r [(1, .dec false)] [3, 28] [6] [.arr 6, Bv false] [some (tAU8 (digs n.natAbs))] [¬ (n < 0)] hB ⟨h3, trivial⟩ ?_
   refine ae_then ?_
   refine aw_false rfl ?_
   refine aw_skip ?_
   refine ae_then ?_
   refine aR [(1, .as (Sv (strB (digs n.natAbs))))] [2] [] [Sv (strB (digs n.natAbs))] [] [(strB (digs n.natAbs)).size = (digs n.natAbs).length ∧ ∀ i_, i_ < (digs n.natAbs).length → (fU8 (digs n.natAbs)) i_ = byteF (strB (digs n.natAbs)) i_] hB ⟨(strB_ok (digs_bd _)), trivial⟩ ?_
   refine aw_ret ?_
   refine ae_ret hB (Sv (strB (digs n.natAbs))) (by kernel_rfl) (.inl (by first | (rw [hn0, decB_zero]; done) | (rw [decB_neg (by omega)]; done) | (rw [decB_pos (by omega)]; done))) rfl (fun _ => trivial)
  have hta := tdiv_abs k
  have htb := tmod_abs k
  have hll := congrArg List.length hd1
  simp only [List.length_append] at hll
  have hst : digs (Int.tdiv k 10).natAbs ++ ([48 + ((k.natAbs % 10 : Nat) : Int)] ++ out) = digs n.natAbs := by rw [← hd1, digs_pos (u := k.natAbs) (by omega), tdiv_abs, List.append_assoc]
  refine aw_r [(1, .dec true)] [0, 3, 4, 9] [6] [I n, .arr 6, I k, Bv true] [some (tAU8 out)] [k ≠ 0] hB ⟨h1, trivial⟩ ?_
  refine ae_then ?_
  refine aw_true rfl ?_
  refine aw_skip ?_
  refine ae_then ?_
  refine aw_seq ?_
  refine aw_block ?_
  refine aR [] [0, 3, 4, 5] [6] [I n, .arr 6, I k, I (Int.tmod k 10)] [some (tAU8 out)] [(10 : Int) ≠ 0] hB ⟨(by omega), trivial⟩ ?_
  refine aw_seq ?_
  refine aw_seq ?_
  by_cases h4 : (Int.tmod k 10) < 0
  ·refine aw_r [(1, .dec true)] [0, 3, 4, 5, 15] [6] [I n, .arr 6, I k, I (Int.tmod k 10), Bv true] [some (tAU8 out)] [(Int.tmod k 10) < 0] hB ⟨h4, trivial⟩ ?_
   refine ae_then ?_
   refine aw_true rfl ?_
   refine aw_r [] [0, 3, 4, 5] [6] [I n, .arr 6, I k, I (-(Int.tmod k 10))] [some (tAU8 out)] [inR .i64 (-(Int.tmod k 10))] hB ⟨(inR_i64 (by omega) (by omega)), trivial⟩ ?_
   refine ae_then ?_
   refine aw_r [(3, .new 21), (5, .new 23)] [0, 3, 4] [23] [I n, .arr 23, I k] [some (.arr 1 (1 + out.length) (catF 1 (litF [.val (.int .u8 (48 + (-(Int.tmod k 10))))] 1) (fU8 out)))] [inR .i64 (48 + (-(Int.tmod k 10))), inR .u8 (48 + (-(Int.tmod k 10))), (1 + out.length) * 1 ≤ 140737488355328] hB ⟨(inR_i64 (by omega) (by omega)), (inR_u8 (by omega) (by omega)), (by omega), trivial⟩ ?_
   refine ae_block 1 ?_
   refine ae_then ?_
   refine aw_r [] [0, 3, 4] [23] [I n, .arr 23, I (Int.tdiv k 10)] [some (.arr 1 (1 + out.length) (catF 1 (litF [.val (.int .u8 (48 + (-(Int.tmod k 10))))] 1) (fU8 out)))] [(10 : Int) ≠ 0 ∧ inR .i64 (Int.tdiv k 10)] hB ⟨⟨by omega, (inR_i64 (by omega) (by omega))⟩, trivial⟩ ?_
   refine ae_weak hB [(6, 23)] (T := [(0, I n), (3, .arr 6), (4, I (Int.tdiv k 10))]) (O := [(6, tAU8 ([(48 + (-(Int.tmod k 10)))] ++ out))]) rfl (⟨.inl rfl, .inl rfl, .inl rfl, trivial⟩) (⟨.inr ⟨rfl, (by first | rfl | (simp; done) | (simp; omega) | omega), fun i_ hi_ => .inl (cat_one (enc := cU8) rfl i_ hi_)⟩, trivial⟩) (ae_again _ (by omega) ⟨([(48 + (-(Int.tmod k 10)))] ++ out), (Int.tdiv k 10), rfl, (by first | (rw [show 48 + Int.tmod k 10 = 48 + ((k.natAbs % 10 : Nat) : Int) from by omega]; exact hst) | (rw [show 48 + -(Int.tmod k 10) = 48 + ((k.natAbs % 10 : Nat) : Int) from by omega]; exact hst)), (by omega), rfl⟩)
  refine aw_r [(1, .dec false)] [0, 3, 4, 5, 15] [6] [I n, .arr 6, I k, I (Int.tmod k 10), Bv false] [some (tAU8 out)] [¬ ((Int.tmod k 10) < 0)] hB ⟨h4, trivial⟩ ?_
  refine ae_then ?_
  refine aw_false rfl ?_
  refine aw_skip ?_
  refine ae_then ?_
  refine aw_r [(3, .new 21), (5, .new 23)] [0, 3, 4] [23] [I n, .arr 23, I k] [some (.arr 1 (1 + out.length) (catF 1 (litF [.val (.int .u8 (48 + (Int.tmod k 10)))] 1) (fU8 out)))] [inR .i64 (48 + (Int.tmod k 10)), inR .u8 (48 + (Int.tmod k 10)), (1 + out.length) * 1 ≤ 140737488355328] hB ⟨(inR_i64 (by omega) (by omega)), (inR_u8 (by omega) (by omega)), (by omega), trivial⟩ ?_
  refine ae_block 1 ?_
  refine ae_then ?_
  refine aw_r [] [0, 3, 4] [23] [I n, .arr 23, I (Int.tdiv k 10)] [some (.arr 1 (1 + out.length) (catF 1 (litF [.val (.int .u8 (48 + (Int.tmod k 10)))] 1) (fU8 out)))] [(10 : Int) ≠ 0 ∧ inR .i64 (Int.tdiv k 10)] hB ⟨⟨by omega, (inR_i64 (by omega) (by omega))⟩, trivial⟩ ?_
  refine ae_weak hB [(6, 23)] (T := [(0, I n), (3, .arr 6), (4, I (Int.tdiv k 10))]) (O := [(6, tAU8 ([(48 + (Int.tmod k 10))] ++ out))]) rfl (⟨.inl rfl, .inl rfl, .inl rfl, trivial⟩) (⟨.inr ⟨rfl, (by first | rfl | (simp; done) | (simp; omega) | omega), fun i_ hi_ => .inl (cat_one (enc := cU8) rfl i_ hi_)⟩, trivial⟩) (ae_again _ (by omega) ⟨([(48 + (Int.tmod k 10))] ++ out), (Int.tdiv k 10), rfl, (by first | (rw [show 48 + Int.tmod k 10 = 48 + ((k.natAbs % 10 : Nat) : Int) from by omega]; exact hst) | (rw [show 48 + -(Int.tmod k 10) = 48 + ((k.natAbs % 10 : Nat) : Int) from by omega]; exact hst)), (by omega), rfl⟩)



-- spec.l20Text
theorem l20Text_ok (list : List Symbol) (hI : ∀ y ∈ list, syI y) (hln : list.length ≤ 20) : Con Tryz.prog 36 [slSymbol false list] true (Sv (linesX (list.map syLn) list.length)) := by
  refine fn_ok (fn := Tryz.f36) (nt := 46) Tryz.func36 rfl rfl rfl rfl (by simp [taggedL, tagged, tagSymbol]) fun B hB => ?_
  refine aw_lens (x := slSymbol false list) 0 rfl (fun len_list => ?_)
  simp [LenOK, LenL, cSymbol, fSymbol, slSymbol] at len_list
  refine aR [] [0] [] [slSymbol false list] [] [] hB trivial ?_
  refine aR [] [0, 3] [] [slSymbol false list, Sv (⟨#[]⟩ : ByteArray)] [] [] hB trivial ?_
  refine aw_seq ?_
  refine aR [] [0, 3, 4] [] [slSymbol false list, Sv (⟨#[]⟩ : ByteArray), I 0] [] [] hB trivial ?_
  refine aw_block ?_
  refine aw_loop (fun gn gσ => ∃ (out : ByteArray) (i : Int), gn = ((list.length : Int) - i).toNat ∧ (0 ≤ i ∧ i ≤ (list.length : Int)) ∧ (out = linesX (list.map syLn) i.toNat) ∧ gσ = mkS [(0, slSymbol false list), (3, Sv out), (4, I i)] []) (((list.length : Int) - 0).toNat) ⟨(⟨#[]⟩ : ByteArray), 0, rfl, (by omega), (by rfl), rfl⟩ (fun gn gσ hI => ?_)
  obtain ⟨out, i, rfl, hi0, htx, rfl⟩ := hI
  refine aw_seq ?_
  refine aw_seq ?_
  by_cases h1 : i < (list.length : Int)
  ·have hi : i.toNat < list.length := by omega
   have hsy := hI _ (at_mem hi)
   have hsd := syI_dec hsy
   have hs1 := hsy.1
   have hsb := hsy.2
   have hzl := syLs_size hI hln (k := i.toNat) (by omega)
   rw [← htx] at hzl
   have hks : (i + 1).toNat = i.toNat + 1 := by omega
   have h32 : (⟨#[32]⟩ : ByteArray).size = 1 := rfl
   have h10 : (⟨#[10]⟩ : ByteArray).size = 1 := rfl
   refine aw_r [(3, .dec true)] [0, 3, 4, 9] [] [slSymbol false list, Sv out, I i, Bv true] [] [i < (list.length : Int)] hB ⟨h1, trivial⟩ ?_
   refine ae_then ?_
   refine aw_true rfl ?_
   refine aw_skip ?_
   refine ae_then ?_
   refine aw_seq ?_
   refine aw_block ?_
   refine aR [(5, .new 5)] [0, 3, 4, 5] [5] [slSymbol false list, Sv out, I i, .ref 5 0] [some (bxBox ((at_ list i.toNat).Box))] [(0 : Int) ≤ i ∧ i < (list.length : Int)] hB ⟨⟨(by omega), (by omega)⟩, trivial⟩ ?_
   refine aw_r [(9, .call [(true, .any)] true (Sv (decB (((at_ list i.toNat).Box).X1)))), (14, .call [(true, .any)] true (Sv (decB (((at_ list i.toNat).Box).Y1)))), (19, .call [(true, .any)] true (Sv (decB (((at_ list i.toNat).Box).X2)))), (24, .call [(true, .any)] true (Sv (decB (((at_ list i.toNat).Box).Y2))))] [0, 3, 4] [] [slSymbol false list, Sv (out ++ (((((((((((at_ list i.toNat).Label) ++ (⟨#[32]⟩ : ByteArray)) ++ (decB (((at_ list i.toNat).Box).X1))) ++ (⟨#[32]⟩ : ByteArray)) ++ (decB (((at_ list i.toNat).Box).Y1))) ++ (⟨#[32]⟩ : ByteArray)) ++ (decB (((at_ list i.toNat).Box).X2))) ++ (⟨#[32]⟩ : ByteArray)) ++ (decB (((at_ list i.toNat).Box).Y2))) ++ (⟨#[10]⟩ : ByteArray))), I i] [] [(0 : Int) ≤ i ∧ i < (list.length : Int), ((at_ list i.toNat).Label).size + (⟨#[32]⟩ : ByteArray).size ≤ 9223372036854775807, Con Tryz.prog 65 [I (((at_ list i.toNat).Box).X1)] true (Sv (decB (((at_ list i.toNat).Box).X1))) ∧ True, (((at_ list i.toNat).Label) ++ (⟨#[32]⟩ : ByteArray)).size + (decB (((at_ list i.toNat).Box).X1)).size ≤ 9223372036854775807, ((((at_ list i.toNat).Label) ++ (⟨#[32]⟩ : ByteArray)) ++ (decB (((at_ list i.toNat).Box).X1))).size + (⟨#[32]⟩ : ByteArray).size ≤ 9223372036854775807, Con Tryz.prog 65 [I (((at_ list i.toNat).Box).Y1)] true (Sv (decB (((at_ list i.toNat).Box).Y1))) ∧ True, (((((at_ list i.toNat).Label) ++ (⟨#[32]⟩ : ByteArray)) ++ (decB (((at_ list i.toNat).Box).X1))) ++ (⟨#[32]⟩ : ByteArray)).size + (decB (((at_ list i.toNat).Box).Y1)).size ≤ 9223372036854775807, ((((((at_ list i.toNat).Label) ++ (⟨#[32]⟩ : ByteArray)) ++ (decB (((at_ list i.toNat).Box).X1))) ++ (⟨#[32]⟩ : ByteArray)) ++ (decB (((at_ list i.toNat).Box).Y1))).size + (⟨#[32]⟩ : ByteArray).size ≤ 9223372036854775807, Con Tryz.prog 65 [I (((at_ list i.toNat).Box).X2)] true (Sv (decB (((at_ list i.toNat).Box).X2))) ∧ True, (((((((at_ list i.toNat).Label) ++ (⟨#[32]⟩ : ByteArray)) ++ (decB (((at_ list i.toNat).Box).X1))) ++ (⟨#[32]⟩ : ByteArray)) ++ (decB (((at_ list i.toNat).Box).Y1))) ++ (⟨#[32]⟩ : ByteArray)).size + (decB (((at_ list i.toNat).Box).X2)).size ≤ 9223372036854775807, ((((((((at_ list i.toNat).Label) ++ (⟨#[32]⟩ : ByteArray)) ++ (decB (((at_ list i.toNat).Box).X1))) ++ (⟨#[32]⟩ : ByteArray)) ++ (decB (((at_ list i.toNat).Box).Y1))) ++ (⟨#[32]⟩ : ByteArray)) ++ (decB (((at_ list i.toNat).Box).X2))).size + (⟨#[32]⟩ : ByteArray).size ≤ 9223372036854775807, Con Tryz.prog 65 [I (((at_ list i.toNat).Box).Y2)] true (Sv (decB (((at_ list i.toNat).Box).Y2))) ∧ True, (((((((((at_ list i.toNat).Label) ++ (⟨#[32]⟩ : ByteArray)) ++ (decB (((at_ list i.toNat).Box).X1))) ++ (⟨#[32]⟩ : ByteArray)) ++ (decB (((at_ list i.toNat).Box).Y1))) ++ (⟨#[32]⟩ : ByteArray)) ++ (decB (((at_ list i.toNat).Box).X2))) ++ (⟨#[32]⟩ : ByteArray)).size + (decB (((at_ list i.toNat).Box).Y2)).size ≤ 9223372036854775807, ((((((((((at_ list i.toNat).Label) ++ (⟨#[32]⟩ : ByteArray)) ++ (decB (((at_ list i.toNat).Box).X1))) ++ (⟨#[32]⟩ : ByteArray)) ++ (decB (((at_ list i.toNat).Box).Y1))) ++ (⟨#[32]⟩ : ByteArray)) ++ (decB (((at_ list i.toNat).Box).X2))) ++ (⟨#[32]⟩ : ByteArray)) ++ (decB (((at_ list i.toNat).Box).Y2))).size + (⟨#[10]⟩ : ByteArray).size ≤ 9223372036854775807, out.size + (((((((((((at_ list i.toNat).Label) ++ (⟨#[32]⟩ : ByteArray)) ++ (decB (((at_ list i.toNat).Box).X1))) ++ (⟨#[32]⟩ : ByteArray)) ++ (decB (((at_ list i.toNat).Box).Y1))) ++ (⟨#[32]⟩ : ByteArray)) ++ (decB (((at_ list i.toNat).Box).X2))) ++ (⟨#[32]⟩ : ByteArray)) ++ (decB (((at_ list i.toNat).Box).Y2))) ++ (⟨#[10]⟩ : ByteArray)).size ≤ 9223372036854775807] hB ⟨⟨(by omega), (by omega)⟩, (by (try simp only [ByteArray.size_append]); omega), ⟨(l01Dec_ok (((at_ list i.toNat).Box).X1) (by omega)), trivial⟩, (by (try simp only [ByteArray.size_append]); omega), (by (try simp only [ByteArray.size_append]); omega), ⟨(l01Dec_ok (((at_ list i.toNat).Box).Y1) (by omega)), trivial⟩, (by (try simp only [ByteArray.size_append]); omega), (by (try simp only [ByteArray.size_append]); omega), ⟨(l01Dec_ok (((at_ list i.toNat).Box).X2) (by omega)), trivial⟩, (by (try simp only [ByteArray.size_append]); omega), (by (try simp only [ByteArray.size_append]); omega), ⟨(l01Dec_ok (((at_ list i.toNat).Box).Y2) (by omega)), trivial⟩, (by (try simp only [ByteArray.size_append]); omega), (by (try simp only [ByteArray.size_append]); omega), (by (try simp only [ByteArray.size_append]); omega), trivial⟩ ?_
   refine ae_block 1 ?_
   refine ae_then ?_
   refine aw_r [] [0, 3, 4] [] [slSymbol false list, Sv (out ++ (((((((((((at_ list i.toNat).Label) ++ (⟨#[32]⟩ : ByteArray)) ++ (decB (((at_ list i.toNat).Box).X1))) ++ (⟨#[32]⟩ : ByteArray)) ++ (decB (((at_ list i.toNat).Box).Y1))) ++ (⟨#[32]⟩ : ByteArray)) ++ (decB (((at_ list i.toNat).Box).X2))) ++ (⟨#[32]⟩ : ByteArray)) ++ (decB (((at_ list i.toNat).Box).Y2))) ++ (⟨#[10]⟩ : ByteArray))), I (i + 1)] [] [inR .i64 (i + 1)] hB ⟨(inR_i64 (by omega) (by omega)), trivial⟩ ?_
   exact ae_again _ (by omega) ⟨(out ++ (((((((((((at_ list i.toNat).Label) ++ (⟨#[32]⟩ : ByteArray)) ++ (decB (((at_ list i.toNat).Box).X1))) ++ (⟨#[32]⟩ : ByteArray)) ++ (decB (((at_ list i.toNat).Box).Y1))) ++ (⟨#[32]⟩ : ByteArray)) ++ (decB (((at_ list i.toNat).Box).X2))) ++ (⟨#[32]⟩ : ByteArray)) ++ (decB (((at_ list i.toNat).Box).Y2))) ++ (⟨#[10]⟩ : ByteArray))), (i + 1), rfl, (by omega), (by rw [hks, sy_step hi, ← htx, syLn_eq]; first | done | (simp only [ByteArray.append_assoc])), rfl⟩
  have hie : i.toNat = list.length := by omega
  rw [hie] at htx
  refine aw_r [(3, .dec false)] [0, 3, 4, 9] [] [slSymbol false list, Sv out, I i, Bv false] [] [¬ (i < (list.length : Int))] hB ⟨h1, trivial⟩ ?_
  refine ae_then ?_
  refine aw_false rfl ?_
  refine aw_exit ?_
  refine ae_exit_then ?_
  refine ae_exit_then ?_
  refine ae_exit_same ?_
  refine ae_then ?_
  refine aR [] [2] [] [Sv out] [] [] hB trivial ?_
  refine aw_ret ?_
  refine ae_ret hB (Sv out) (by kernel_rfl) (.inl (by rw [htx])) rfl (fun _ => trivial)



-- spec.l00Src).one
theorem one_ok (s : l00Src) (n : Int) (hs : okSrc s) (ha : s.atx ≤ 3999999999999999980) : ∃ (v : Bool) (s' : l00Src), (okSrc s') ∧ (s'.code = s.code) ∧ (s.atx + 0 ≤ s'.atx ∧ s'.atx ≤ s.atx + 2) ∧ CallOK Tryz.prog 38 [.ref 7001 0, I n] (lookO [(7001, bxl00Src s)]) true (Bv v) (lookO [(7001, bxl00Src s')]) := by
  have hh : ∃ r : Bool × l00Src, ((okSrc r.2) ∧ (r.2.code = s.code) ∧ (s.atx + 0 ≤ r.2.atx ∧ r.2.atx ≤ s.atx + 2) ∧ (True)) ∧ CallOK Tryz.prog 38 [.ref 7001 0, I n] (lookO [(7001, bxl00Src s)]) true (Bv r.1) (lookO [(7001, bxl00Src r.2)]) := by
    refine fn_okX (Φ := fun r : Bool × l00Src => (okSrc r.2) ∧ (r.2.code = s.code) ∧ (s.atx + 0 ≤ r.2.atx ∧ r.2.atx ≤ s.atx + 2) ∧ (True)) [(7001, bxl00Src s)] (fun r => [(7001, bxl00Src r.2)]) (fn := Tryz.f38) (nt := 9) Tryz.func38 rfl rfl (args := [.ref 7001 0, I n]) rfl (allcons (.inr trivial) (allcons (.inl ⟨rfl, trivial⟩) allnil)) (res := fun r => Bv r.1) ?_
    refine xR [] [0, 1] [7001] [.ref 7001 0, I n] [some (bxl00Src s)] [] trivial ?_
    refine x_seq ?_
    obtain ⟨v_1, s'_1, hx1_0, hx1_1, hx1_2, hx1_3, hc1⟩ := pick_ok s n (by first | assumption | (simp only [okSrc] at *; simp_all; done)) (by omega)
    refine x_r [(2, .lend [(7001, bxl00Src s, bxl00Src s'_1)] [] [(true, .any), (true, .any)] true (I v_1))] [4] [7001] [Bv (decide (v_1 = 0))] [some (bxl00Src s'_1)] [CallOK Tryz.prog 42 [.ref 7001 0, I n] (lookO [(7001, bxl00Src s)]) true (I v_1) (lookO [(7001, bxl00Src s'_1)]) ∧ (((bxl00Src s : Ob) = bxl00Src s ∨ obLe noOb true (bxl00Src s) (bxl00Src s)) ∧ taggedO false (bxl00Src s)) ∧ True] ⟨⟨hc1, ⟨.inl rfl, (by simp [taggedO, taggedL, tagged, tagU8])⟩, trivial⟩, trivial⟩ ?_
    refine xe_then ?_
    refine x_ret ?_
    refine xe_end (decide (v_1 = 0), s'_1) (show (okSrc s'_1) ∧ (s'_1.code = s.code) ∧ (s.atx + 0 ≤ s'_1.atx ∧ s'_1.atx ≤ s.atx + 2) ∧ (True) from ⟨(by first | omega | rfl | assumption | (dsimp only; first | omega | rfl | assumption) | (simp only [*]; done) | (simp_all; done)), (by first | omega | rfl | assumption | (dsimp only; first | omega | rfl | assumption) | (simp only [*]; done) | (simp_all; done)), (by first | omega | rfl | assumption | (dsimp only; first | omega | rfl | assumption) | (simp only [*]; done) | (simp_all; done)), trivial⟩) (⟨.inl rfl, trivial⟩) (Bv (decide (v_1 = 0))) (by kernel_rfl) (.inl rfl) (fun _ => rfl) (fun _ => trivial)
  obtain ⟨⟨v, s'⟩, ⟨hh0, hh1, hh2, _⟩, hc⟩ := hh
  exact ⟨v, s', hh0, hh1, hh2, hc⟩



-- spec.l01Spoil
theorem l01Spoil_ok (s : l00Src) (t : ByteArray) (hs : okSrc s) (ha : s.atx ≤ 3999999999999999000) (ht : t.size ≤ 100000) : ∃ (v : ByteArray) (s' : l00Src), (okSrc s') ∧ (s'.code = s.code) ∧ (s.atx + 0 ≤ s'.atx ∧ s'.atx ≤ s.atx + 200) ∧ (v.size ≤ t.size + 64) ∧ CallOK Tryz.prog 39 [.ref 7001 0, Sv t] (lookO [(7001, bxl00Src s)]) true (Sv v) (lookO [(7001, bxl00Src s')]) := by
  have hh : ∃ r : ByteArray × l00Src, ((okSrc r.2) ∧ (r.2.code = s.code) ∧ (s.atx + 0 ≤ r.2.atx ∧ r.2.atx ≤ s.atx + 200) ∧ (r.1.size ≤ t.size + 64) ∧ (True)) ∧ CallOK Tryz.prog 39 [.ref 7001 0, Sv t] (lookO [(7001, bxl00Src s)]) true (Sv r.1) (lookO [(7001, bxl00Src r.2)]) := by
    refine fn_okX (Φ := fun r : ByteArray × l00Src => (okSrc r.2) ∧ (r.2.code = s.code) ∧ (s.atx + 0 ≤ r.2.atx ∧ r.2.atx ≤ s.atx + 200) ∧ (r.1.size ≤ t.size + 64) ∧ (True)) [(7001, bxl00Src s)] (fun r => [(7001, bxl00Src r.2)]) (fn := Tryz.f39) (nt := 44) Tryz.func39 rfl rfl (args := [.ref 7001 0, Sv t]) rfl (allcons (.inr trivial) (allcons (.inl ⟨rfl, trivial⟩) allnil)) (res := fun r => Sv r.1) ?_
    refine xR [] [0, 1] [7001] [.ref 7001 0, Sv t] [some (bxl00Src s)] [] trivial ?_
    refine x_seq ?_
    refine x_seq ?_
    obtain ⟨v_1, s'_1, hx1_0, hx1_1, hx1_2, hx1_3, hc1⟩ := pick_ok s 5 (by first | assumption | (simp only [okSrc] at *; simp_all; done)) (by omega)
    refine x_r [(1, .lend [(7001, bxl00Src s, bxl00Src s'_1)] [] [(true, .any), (true, .any)] true (I v_1))] [0, 1, 8] [7001] [.ref 7001 0, Sv t, I v_1] [some (bxl00Src s'_1)] [CallOK Tryz.prog 42 [.ref 7001 0, I 5] (lookO [(7001, bxl00Src s)]) true (I v_1) (lookO [(7001, bxl00Src s'_1)]) ∧ (((bxl00Src s : Ob) = bxl00Src s ∨ obLe noOb true (bxl00Src s) (bxl00Src s)) ∧ taggedO false (bxl00Src s)) ∧ True] ⟨⟨hc1, ⟨.inl rfl, (by simp [taggedO, taggedL, tagged, tagU8])⟩, trivial⟩, trivial⟩ ?_
    refine xe_then ?_
    refine x_block ?_
    refine x_seq ?_
    by_cases h1 : v_1 = 0
    ·refine x_r [(0, .dec true)] [0, 1, 8, 9] [7001] [.ref 7001 0, Sv t, I v_1, Bv true] [some (bxl00Src s'_1)] [v_1 = 0] ⟨h1, trivial⟩ ?_
     refine xe_then ?_
     refine x_true rfl ?_
     refine x_seq ?_
     obtain ⟨v_2, s'_2, hx2_0, hx2_1, hx2_2, hx2_3, hc2⟩ := pick_ok s'_1 ((t.size : Int) + 1) (by first | assumption | (simp only [okSrc] at *; simp_all; done)) (by omega)
     refine x_r [(4, .lend [(7001, bxl00Src s'_1, bxl00Src s'_2)] [] [(true, .any), (true, .any)] true (I v_2))] [0, 1, 5] [7001] [.ref 7001 0, Sv t, I v_2] [some (bxl00Src s'_2)] [inR .i64 ((t.size : Int) + 1), CallOK Tryz.prog 42 [.ref 7001 0, I ((t.size : Int) + 1)] (lookO [(7001, bxl00Src s'_1)]) true (I v_2) (lookO [(7001, bxl00Src s'_2)]) ∧ (((bxl00Src s'_1 : Ob) = bxl00Src s'_1 ∨ obLe noOb true (bxl00Src s'_1) (bxl00Src s'_1)) ∧ taggedO false (bxl00Src s'_1)) ∧ True] ⟨(inR_i64 (by omega) (by omega)), ⟨hc2, ⟨.inl rfl, (by simp [taggedO, taggedL, tagged, tagU8])⟩, trivial⟩, trivial⟩ ?_
     refine xe_then ?_
     obtain ⟨v_3, s'_3, hx3_0, hx3_1, hx3_2, hx3_3, hx3_4, hc3⟩ := text_ok s'_2 ([(⟨#[32]⟩ : ByteArray), (⟨#[48]⟩ : ByteArray), (⟨#[45]⟩ : ByteArray), (⟨#[120]⟩ : ByteArray), (⟨#[49]⟩ : ByteArray), (⟨#[57]⟩ : ByteArray), (⟨#[46]⟩ : ByteArray)]) (by first | assumption | (simp only [okSrc] at *; simp_all; done)) (by omega) (by decide)
     refine x_r [(4, .new 20), (5, .lend [(7001, bxl00Src s'_2, bxl00Src s'_3)] [] [(true, .any), (false, slS false ([(⟨#[32]⟩ : ByteArray), (⟨#[48]⟩ : ByteArray), (⟨#[45]⟩ : ByteArray), (⟨#[120]⟩ : ByteArray), (⟨#[49]⟩ : ByteArray), (⟨#[57]⟩ : ByteArray), (⟨#[46]⟩ : ByteArray)]))] true (Sv v_3))] [1] [7001] [Sv (((t.extract 0 v_2.toNat) ++ v_3) ++ (t.extract v_2.toNat (t.size : Int).toNat))] [some (bxl00Src s'_3)] [(0 : Int) ≤ 0 ∧ (0 : Int) ≤ v_2 ∧ v_2 ≤ (t.size : Int), CallOK Tryz.prog 46 [.ref 7001 0, slS false ([(⟨#[32]⟩ : ByteArray), (⟨#[48]⟩ : ByteArray), (⟨#[45]⟩ : ByteArray), (⟨#[120]⟩ : ByteArray), (⟨#[49]⟩ : ByteArray), (⟨#[57]⟩ : ByteArray), (⟨#[46]⟩ : ByteArray)])] (lookO [(7001, bxl00Src s'_2)]) true (Sv v_3) (lookO [(7001, bxl00Src s'_3)]) ∧ ((false = true → true = true) ∧ 1 = 1 ∧ 7 = (([(⟨#[32]⟩ : ByteArray), (⟨#[48]⟩ : ByteArray), (⟨#[45]⟩ : ByteArray), (⟨#[120]⟩ : ByteArray), (⟨#[49]⟩ : ByteArray), (⟨#[57]⟩ : ByteArray), (⟨#[46]⟩ : ByteArray)]).length) ∧ ∀ i_, i_ < (([(⟨#[32]⟩ : ByteArray), (⟨#[48]⟩ : ByteArray), (⟨#[45]⟩ : ByteArray), (⟨#[120]⟩ : ByteArray), (⟨#[49]⟩ : ByteArray), (⟨#[57]⟩ : ByteArray), (⟨#[46]⟩ : ByteArray)]).length) → (litF [Sv (⟨#[32]⟩ : ByteArray), Sv (⟨#[48]⟩ : ByteArray), Sv (⟨#[45]⟩ : ByteArray), Sv (⟨#[120]⟩ : ByteArray), Sv (⟨#[49]⟩ : ByteArray), Sv (⟨#[57]⟩ : ByteArray), Sv (⟨#[46]⟩ : ByteArray)] 1) i_ = (fS ([(⟨#[32]⟩ : ByteArray), (⟨#[48]⟩ : ByteArray), (⟨#[45]⟩ : ByteArray), (⟨#[120]⟩ : ByteArray), (⟨#[49]⟩ : ByteArray), (⟨#[57]⟩ : ByteArray), (⟨#[46]⟩ : ByteArray)])) i_ ∨ (AV.idsL ((fS ([(⟨#[32]⟩ : ByteArray), (⟨#[48]⟩ : ByteArray), (⟨#[45]⟩ : ByteArray), (⟨#[120]⟩ : ByteArray), (⟨#[49]⟩ : ByteArray), (⟨#[57]⟩ : ByteArray), (⟨#[46]⟩ : ByteArray)])) i_) = [] ∧ leL (fun _ => none) false ((litF [Sv (⟨#[32]⟩ : ByteArray), Sv (⟨#[48]⟩ : ByteArray), Sv (⟨#[45]⟩ : ByteArray), Sv (⟨#[120]⟩ : ByteArray), Sv (⟨#[49]⟩ : ByteArray), Sv (⟨#[57]⟩ : ByteArray), Sv (⟨#[46]⟩ : ByteArray)] 1) i_) ((fS ([(⟨#[32]⟩ : ByteArray), (⟨#[48]⟩ : ByteArray), (⟨#[45]⟩ : ByteArray), (⟨#[120]⟩ : ByteArray), (⟨#[49]⟩ : ByteArray), (⟨#[57]⟩ : ByteArray), (⟨#[46]⟩ : ByteArray)])) i_))) ∧ (((bxl00Src s'_2 : Ob) = bxl00Src s'_2 ∨ obLe noOb true (bxl00Src s'_2) (bxl00Src s'_2)) ∧ taggedO false (bxl00Src s'_2)) ∧ True, (t.extract 0 v_2.toNat).size + v_3.size ≤ 9223372036854775807, (0 : Int) ≤ v_2 ∧ v_2 ≤ (t.size : Int) ∧ (t.size : Int) ≤ (t.size : Int), ((t.extract 0 v_2.toNat) ++ v_3).size + (t.extract v_2.toNat (t.size : Int).toNat).size ≤ 9223372036854775807] ⟨⟨(by omega), (by omega), (by omega)⟩, ⟨hc3, ⟨(fun h => by cases h), rfl, (by first | rfl | (simp; done) | (simp; omega) | omega), fun i_ hi_ => .inl (match i_, hi_ with | 0, _ => rfl | 1, _ => rfl | 2, _ => rfl | 3, _ => rfl | 4, _ => rfl | 5, _ => rfl | 6, _ => rfl | (i + 7), h => absurd h (by simp))⟩, ⟨.inl rfl, (by simp [taggedO, taggedL, tagged, tagU8])⟩, trivial⟩, (by (try simp only [ByteArray.size_append, ByteArray.size_extract]); omega), ⟨(by omega), (by omega), (by omega)⟩, (by (try simp only [ByteArray.size_append, ByteArray.size_extract]); omega), trivial⟩ ?_
     refine xe_block 0 ?_
     refine xe_then ?_
     refine xR [] [4] [7001] [Sv (((t.extract 0 v_2.toNat) ++ v_3) ++ (t.extract v_2.toNat (t.size : Int).toNat))] [some (bxl00Src s'_3)] [] trivial ?_
     refine x_ret ?_
     refine xe_end ((((t.extract 0 v_2.toNat) ++ v_3) ++ (t.extract v_2.toNat (t.size : Int).toNat)), s'_3) (show (okSrc s'_3) ∧ (s'_3.code = s.code) ∧ (s.atx + 0 ≤ s'_3.atx ∧ s'_3.atx ≤ s.atx + 200) ∧ ((((t.extract 0 v_2.toNat) ++ v_3) ++ (t.extract v_2.toNat (t.size : Int).toNat)).size ≤ t.size + 64) ∧ (True) from ⟨(by first | omega | assumption | rfl | (simp only [ByteArray.size_append, ByteArray.size_extract]; omega) | (simp; done) | (simp; omega) | (simp_all; done)), (by first | omega | assumption | rfl | (simp only [ByteArray.size_append, ByteArray.size_extract]; omega) | (simp; done) | (simp; omega) | (simp_all; done)), (by first | omega | assumption | rfl | (simp only [ByteArray.size_append, ByteArray.size_extract]; omega) | (simp; done) | (simp; omega) | (simp_all; done)), (by first | omega | assumption | rfl | (simp only [ByteArray.size_append, ByteArray.size_extract]; omega) | (simp; done) | (simp; omega) | (simp_all; done)), trivial⟩) (⟨.inl rfl, trivial⟩) (Sv (((t.extract 0 v_2.toNat) ++ v_3) ++ (t.extract v_2.toNat (t.size : Int).toNat))) (by kernel_rfl) (.inl rfl) (fun _ => rfl) (fun _ => trivial)
    refine x_r [(0, .dec false)] [0, 1, 8, 9] [7001] [.ref 7001 0, Sv t, I v_1, Bv false] [some (bxl00Src s'_1)] [¬ (v_1 = 0)] ⟨h1, trivial⟩ ?_
    refine xe_then ?_
    refine x_false rfl ?_
    refine x_seq ?_
    by_cases h2 : v_1 = 1
    ·refine x_r [(0, .dec true)] [0, 1, 27] [7001] [.ref 7001 0, Sv t, Bv true] [some (bxl00Src s'_1)] [v_1 = 1] ⟨h2, trivial⟩ ?_
     refine xe_then ?_
     refine x_true rfl ?_
     refine x_seq ?_
     by_cases h3 : t = (⟨#[]⟩ : ByteArray)
     ·refine x_r [(1, .dec false)] [0, 1, 30] [7001] [.ref 7001 0, Sv t, Bv false] [some (bxl00Src s'_1)] [¬ (t ≠ (⟨#[]⟩ : ByteArray))] ⟨(fun hq => hq h3), trivial⟩ ?_
      refine xe_then ?_
      refine x_false rfl ?_
      refine x_skip ?_
      refine xe_block 0 ?_
      refine xe_then ?_
      refine xR [] [4] [7001] [Sv t] [some (bxl00Src s'_1)] [] trivial ?_
      refine x_ret ?_
      refine xe_end (t, s'_1) (show (okSrc s'_1) ∧ (s'_1.code = s.code) ∧ (s.atx + 0 ≤ s'_1.atx ∧ s'_1.atx ≤ s.atx + 200) ∧ (t.size ≤ t.size + 64) ∧ (True) from ⟨(by first | omega | assumption | rfl | (simp only [ByteArray.size_append, ByteArray.size_extract]; omega) | (simp; done) | (simp; omega) | (simp_all; done)), (by first | omega | assumption | rfl | (simp only [ByteArray.size_append, ByteArray.size_extract]; omega) | (simp; done) | (simp; omega) | (simp_all; done)), (by first | omega | assumption | rfl | (simp only [ByteArray.size_append, ByteArray.size_extract]; omega) | (simp; done) | (simp; omega) | (simp_all; done)), (by first | omega | assumption | rfl | (simp only [ByteArray.size_append, ByteArray.size_extract]; omega) | (simp; done) | (simp; omega) | (simp_all; done)), trivial⟩) (⟨.inl rfl, trivial⟩) (Sv t) (by kernel_rfl) (.inl rfl) (fun _ => rfl) (fun _ => trivial)
     have hs0 : 0 < t.size := Nat.pos_of_ne_zero (fun q => h3 (ByteArray.ext (Array.eq_empty_of_size_eq_zero q)))
     refine x_r [(1, .dec true)] [0, 1, 30] [7001] [.ref 7001 0, Sv t, Bv true] [some (bxl00Src s'_1)] [t ≠ (⟨#[]⟩ : ByteArray)] ⟨h3, trivial⟩ ?_
     refine xe_then ?_
     refine x_true rfl ?_
     refine x_seq ?_
     obtain ⟨v_4, s'_4, hx4_0, hx4_1, hx4_2, hx4_3, hc4⟩ := pick_ok s'_1 (t.size : Int) (by first | assumption | (simp only [okSrc] at *; simp_all; done)) (by omega)
     refine x_r [(3, .lend [(7001, bxl00Src s'_1, bxl00Src s'_4)] [] [(true, .any), (true, .any)] true (I v_4))] [1, 6] [7001] [Sv t, I v_4] [some (bxl00Src s'_4)] [CallOK Tryz.prog 42 [.ref 7001 0, I (t.size : Int)] (lookO [(7001, bxl00Src s'_1)]) true (I v_4) (lookO [(7001, bxl00Src s'_4)]) ∧ (((bxl00Src s'_1 : Ob) = bxl00Src s'_1 ∨ obLe noOb true (bxl00Src s'_1) (bxl00Src s'_1)) ∧ taggedO false (bxl00Src s'_1)) ∧ True] ⟨⟨hc4, ⟨.inl rfl, (by simp [taggedO, taggedL, tagged, tagU8])⟩, trivial⟩, trivial⟩ ?_
     refine xe_then ?_
     refine x_r [] [1] [7001] [Sv ((t.extract 0 v_4.toNat) ++ (t.extract (v_4 + 1).toNat (t.size : Int).toNat))] [some (bxl00Src s'_4)] [(0 : Int) ≤ 0 ∧ (0 : Int) ≤ v_4 ∧ v_4 ≤ (t.size : Int), inR .i64 (v_4 + 1), (0 : Int) ≤ (v_4 + 1) ∧ (v_4 + 1) ≤ (t.size : Int) ∧ (t.size : Int) ≤ (t.size : Int), (t.extract 0 v_4.toNat).size + (t.extract (v_4 + 1).toNat (t.size : Int).toNat).size ≤ 9223372036854775807] ⟨⟨(by omega), (by omega), (by omega)⟩, (inR_i64 (by omega) (by omega)), ⟨(by omega), (by omega), (by omega)⟩, (by (try simp only [ByteArray.size_append, ByteArray.size_extract]); omega), trivial⟩ ?_
     refine xe_block 0 ?_
     refine xe_then ?_
     refine xR [] [4] [7001] [Sv ((t.extract 0 v_4.toNat) ++ (t.extract (v_4 + 1).toNat (t.size : Int).toNat))] [some (bxl00Src s'_4)] [] trivial ?_
     refine x_ret ?_
     refine xe_end (((t.extract 0 v_4.toNat) ++ (t.extract (v_4 + 1).toNat (t.size : Int).toNat)), s'_4) (show (okSrc s'_4) ∧ (s'_4.code = s.code) ∧ (s.atx + 0 ≤ s'_4.atx ∧ s'_4.atx ≤ s.atx + 200) ∧ (((t.extract 0 v_4.toNat) ++ (t.extract (v_4 + 1).toNat (t.size : Int).toNat)).size ≤ t.size + 64) ∧ (True) from ⟨(by first | omega | assumption | rfl | (simp only [ByteArray.size_append, ByteArray.size_extract]; omega) | (simp; done) | (simp; omega) | (simp_all; done)), (by first | omega | assumption | rfl | (simp only [ByteArray.size_append, ByteArray.size_extract]; omega) | (simp; done) | (simp; omega) | (simp_all; done)), (by first | omega | assumption | rfl | (simp only [ByteArray.size_append, ByteArray.size_extract]; omega) | (simp; done) | (simp; omega) | (simp_all; done)), (by first | omega | assumption | rfl | (simp only [ByteArray.size_append, ByteArray.size_extract]; omega) | (simp; done) | (simp; omega) | (simp_all; done)), trivial⟩) (⟨.inl rfl, trivial⟩) (Sv ((t.extract 0 v_4.toNat) ++ (t.extract (v_4 + 1).toNat (t.size : Int).toNat))) (by kernel_rfl) (.inl rfl) (fun _ => rfl) (fun _ => trivial)
    refine x_r [(0, .dec false)] [0, 1, 27] [7001] [.ref 7001 0, Sv t, Bv false] [some (bxl00Src s'_1)] [¬ (v_1 = 1)] ⟨h2, trivial⟩ ?_
    refine xe_then ?_
    refine x_false rfl ?_
    refine x_skip ?_
    refine xe_block 0 ?_
    refine xe_then ?_
    refine xR [] [4] [7001] [Sv t] [some (bxl00Src s'_1)] [] trivial ?_
    refine x_ret ?_
    refine xe_end (t, s'_1) (show (okSrc s'_1) ∧ (s'_1.code = s.code) ∧ (s.atx + 0 ≤ s'_1.atx ∧ s'_1.atx ≤ s.atx + 200) ∧ (t.size ≤ t.size + 64) ∧ (True) from ⟨(by first | omega | assumption | rfl | (simp only [ByteArray.size_append, ByteArray.size_extract]; omega) | (simp; done) | (simp; omega) | (simp_all; done)), (by first | omega | assumption | rfl | (simp only [ByteArray.size_append, ByteArray.size_extract]; omega) | (simp; done) | (simp; omega) | (simp_all; done)), (by first | omega | assumption | rfl | (simp only [ByteArray.size_append, ByteArray.size_extract]; omega) | (simp; done) | (simp; omega) | (simp_all; done)), (by first | omega | assumption | rfl | (simp only [ByteArray.size_append, ByteArray.size_extract]; omega) | (simp; done) | (simp; omega) | (simp_all; done)), trivial⟩) (⟨.inl rfl, trivial⟩) (Sv t) (by kernel_rfl) (.inl rfl) (fun _ => rfl) (fun _ => trivial)
  obtain ⟨⟨v, s'⟩, ⟨hh0, hh1, hh2, hh3, _⟩, hc⟩ := hh
  exact ⟨v, s', hh0, hh1, hh2, hh3, hc⟩



-- spec.DrawReadSymbols
theorem DrawReadSymbols_ok (code : List Int) (hc : (∀ j, j < code.length → 0 ≤ at_ code j ∧ at_ code j ≤ 255) ∧ code.length ≤ 4611686018427387904) : ∃ (v : ByteArray), (v.size ≤ 20000) ∧ Con Tryz.prog 10 [slU8 false code] true (Sv v) := by
  have hh : ∃ r : ByteArray, ((r.size ≤ 20000) ∧ (True)) ∧ CallOK Tryz.prog 10 [slU8 false code] (lookO []) true (Sv r) (lookO []) := by
    refine fn_okX (Φ := fun r : ByteArray => (r.size ≤ 20000) ∧ (True)) [] (fun r => []) (fn := Tryz.f10) (nt := 16) Tryz.func10 rfl rfl (args := [slU8 false code]) rfl (allcons (.inl ⟨rfl, tagU8 false _⟩) allnil) (res := fun r => Sv r) ?_
    refine xR [] [0] [] [slU8 false code] [] [] trivial ?_
    refine x_seq ?_
    obtain ⟨s'_1, hx1_0, hc1⟩ := l00From_ok code
    have hsrc : okSrc s'_1 := ⟨by rw [hx1_0.1]; exact hc.1, by rw [hx1_0.2]; decide, by rw [hx1_0.1]; exact hc.2⟩
    have hat0 := hx1_0.2
    refine x_r [(1, .lend [] [(7001, bxl00Src s'_1)] [(true, .any)] false (.ref 7001 0))] [3] [7001] [.ref 7001 0] [some (bxl00Src s'_1)] [CallOK Tryz.prog 26 [slU8 false code] (lookO []) false (.ref 7001 0) (lookO [(7001, bxl00Src s'_1)]) ∧ True] ⟨⟨hc1, trivial⟩, trivial⟩ ?_
    refine xe_then ?_
    refine x_seq ?_
    obtain ⟨s'_2, fs_2, hx2_0, hx2_1, hx2_2, hx2_3, hx2_4, hc2⟩ := l20Draw_ok s'_1 5 (by first | assumption | (simp only [okSrc] at *; simp_all; done)) (by omega) (by omega)
    have hfz := hx2_4
    have hzl := syLs_size hfz (by omega) (Nat.le_refl _)
    refine x_r [(1, .lend [(7001, bxl00Src s'_1, bxl00Src s'_2)] [(9501, tASymbol fs_2)] [(true, .any), (true, .any)] false (.arr 9501)), (2, .call [(false, slSymbol false fs_2)] true (Sv (linesX (fs_2.map syLn) fs_2.length)))] [3, 4] [7001] [.ref 7001 0, Sv (linesX (fs_2.map syLn) fs_2.length)] [some (bxl00Src s'_2)] [CallOK Tryz.prog 37 [.ref 7001 0, I 5] (lookO [(7001, bxl00Src s'_1)]) false (.arr 9501) (lookO [(7001, bxl00Src s'_2), (9501, tASymbol fs_2)]) ∧ (((bxl00Src s'_1 : Ob) = bxl00Src s'_1 ∨ obLe noOb true (bxl00Src s'_1) (bxl00Src s'_1)) ∧ taggedO false (bxl00Src s'_1)) ∧ True, Con Tryz.prog 36 [slSymbol false fs_2] true (Sv (linesX (fs_2.map syLn) fs_2.length)) ∧ ((false = true → true = true) ∧ 5 = 5 ∧ fs_2.length = fs_2.length ∧ ∀ i_, i_ < fs_2.length → (fSymbol fs_2) i_ = (fSymbol fs_2) i_ ∨ (AV.idsL ((fSymbol fs_2) i_) = [] ∧ leL (fun _ => none) false ((fSymbol fs_2) i_) ((fSymbol fs_2) i_))) ∧ True] ⟨⟨hc2, ⟨.inl rfl, (by simp [taggedO, taggedL, tagged, tagU8])⟩, trivial⟩, ⟨(l20Text_ok fs_2 hfz (by omega)), ⟨(fun h => by cases h), rfl, rfl, fun i _ => .inl rfl⟩, trivial⟩, trivial⟩ ?_
    refine xe_then ?_
    refine x_seq ?_
    refine x_seq ?_
    obtain ⟨v_3, s'_3, hx3_0, hx3_1, hx3_2, hc3⟩ := one_ok s'_2 3 (by first | assumption | (simp only [okSrc] at *; simp_all; done)) (by omega)
    rcases Bool.eq_false_or_eq_true v_3 with h1 | h1
    ·subst h1
     refine x_r [(1, .lend [(7001, bxl00Src s'_2, bxl00Src s'_3)] [] [(true, .any), (true, .any)] true (Bv true))] [3, 4, 11] [7001] [.ref 7001 0, Sv (linesX (fs_2.map syLn) fs_2.length), Bv true] [some (bxl00Src s'_3)] [CallOK Tryz.prog 38 [.ref 7001 0, I 3] (lookO [(7001, bxl00Src s'_2)]) true (Bv true) (lookO [(7001, bxl00Src s'_3)]) ∧ (((bxl00Src s'_2 : Ob) = bxl00Src s'_2 ∨ obLe noOb true (bxl00Src s'_2) (bxl00Src s'_2)) ∧ taggedO false (bxl00Src s'_2)) ∧ True] ⟨⟨hc3, ⟨.inl rfl, (by simp [taggedO, taggedL, tagged, tagU8])⟩, trivial⟩, trivial⟩ ?_
     refine xe_then ?_
     refine x_true rfl ?_
     refine x_seq ?_
     obtain ⟨v_4, s'_4, hx4_0, hx4_1, hx4_2, hx4_3, hc4⟩ := l01Spoil_ok s'_3 (linesX (fs_2.map syLn) fs_2.length) (by first | assumption | (simp only [okSrc] at *; simp_all; done)) (by omega) (by omega)
     refine x_r [(2, .lend [(7001, bxl00Src s'_3, bxl00Src s'_4)] [] [(true, .any), (true, .any)] true (Sv v_4))] [2] [] [Sv v_4] [] [CallOK Tryz.prog 39 [.ref 7001 0, Sv (linesX (fs_2.map syLn) fs_2.length)] (lookO [(7001, bxl00Src s'_3)]) true (Sv v_4) (lookO [(7001, bxl00Src s'_4)]) ∧ (((bxl00Src s'_3 : Ob) = bxl00Src s'_3 ∨ obLe noOb true (bxl00Src s'_3) (bxl00Src s'_3)) ∧ taggedO false (bxl00Src s'_3)) ∧ True] ⟨⟨hc4, ⟨.inl rfl, (by simp [taggedO, taggedL, tagged, tagU8])⟩, trivial⟩, trivial⟩ ?_
     refine xe_then ?_
     refine x_ret ?_
     refine xe_ret_then ?_
     refine xe_end v_4 (show (v_4.size ≤ 20000) ∧ (True) from ⟨(by omega), trivial⟩) (trivial) (Sv v_4) (by kernel_rfl) (.inl rfl) (fun _ => rfl) (fun _ => trivial)
    subst h1
    refine x_r [(1, .lend [(7001, bxl00Src s'_2, bxl00Src s'_3)] [] [(true, .any), (true, .any)] true (Bv false))] [3, 4, 11] [7001] [.ref 7001 0, Sv (linesX (fs_2.map syLn) fs_2.length), Bv false] [some (bxl00Src s'_3)] [CallOK Tryz.prog 38 [.ref 7001 0, I 3] (lookO [(7001, bxl00Src s'_2)]) true (Bv false) (lookO [(7001, bxl00Src s'_3)]) ∧ (((bxl00Src s'_2 : Ob) = bxl00Src s'_2 ∨ obLe noOb true (bxl00Src s'_2) (bxl00Src s'_2)) ∧ taggedO false (bxl00Src s'_2)) ∧ True] ⟨⟨hc3, ⟨.inl rfl, (by simp [taggedO, taggedL, tagged, tagU8])⟩, trivial⟩, trivial⟩ ?_
    refine xe_then ?_
    refine x_false rfl ?_
    refine x_skip ?_
    refine xe_then ?_
    refine xR [] [2] [] [Sv (linesX (fs_2.map syLn) fs_2.length)] [] [] trivial ?_
    refine x_ret ?_
    refine xe_end (linesX (fs_2.map syLn) fs_2.length) (show ((linesX (fs_2.map syLn) fs_2.length).size ≤ 20000) ∧ (True) from ⟨(by omega), trivial⟩) (trivial) (Sv (linesX (fs_2.map syLn) fs_2.length)) (by kernel_rfl) (.inl rfl) (fun _ => rfl) (fun _ => trivial)
  obtain ⟨v, ⟨hh0, _⟩, hc⟩ := hh
  exact ⟨v, hh0, hc⟩



-- spec.l01Split
theorem l01Split_ok (s : ByteArray) (by_ : Int) (hz : s.size ≤ 1000000) (hby : 0 ≤ by_ ∧ by_ ≤ 255) : ∃ (v : List ByteArray), (v = splB (⟨#[UInt8.ofNat by_.toNat]⟩ : ByteArray) s) ∧ Con Tryz.prog 40 [Sv s, .val (.int .u8 by_)] true (slS true v) := by
  have hcu : ((UInt8.ofNat by_.toNat).toNat : Int) = by_ := by rw [UInt8.toNat_ofNat']; omega
  have hh : ∃ r : (List ByteArray), ((r = splB (⟨#[UInt8.ofNat by_.toNat]⟩ : ByteArray) s) ∧ (True)) ∧ CallOK Tryz.prog 40 [Sv s, .val (.int .u8 by_)] (lookO []) true (slS true r) (lookO []) := by
    refine fn_okX (Φ := fun r : (List ByteArray) => (r = splB (⟨#[UInt8.ofNat by_.toNat]⟩ : ByteArray) s) ∧ (True)) [] (fun r => []) (fn := Tryz.f40) (nt := 35) Tryz.func40 rfl rfl (args := [Sv s, .val (.int .u8 by_)]) rfl (allcons (.inl ⟨rfl, trivial⟩) (allcons (.inl ⟨rfl, trivial⟩) allnil)) (res := fun r => slS true r) ?_
    refine xR [] [0, 1] [] [Sv s, .val (.int .u8 by_)] [] [] trivial ?_
    refine xR [(0, .new 8)] [0, 1, 5] [8] [Sv s, .val (.int .u8 by_), .arr 8] [some (.arr 1 0 (litF [] 1))] [] trivial ?_
    refine xR [] [0, 1, 5, 6] [8] [Sv s, .val (.int .u8 by_), .arr 8, I 0] [some (.arr 1 0 (litF [] 1))] [] trivial ?_
    refine x_seq ?_
    refine xR [] [0, 1, 5, 6, 7] [8] [Sv s, .val (.int .u8 by_), .arr 8, I 0, I 0] [some (.arr 1 0 (litF [] 1))] [] trivial ?_
    refine x_block ?_
    refine x_weak [] (T := [(0, Sv s), (1, .val (.int .u8 by_)), (5, .arr 8), (6, I 0), (7, I 0)]) (O := [(8, tAS ([] : List ByteArray))]) rfl (⟨.inl rfl, .inl rfl, .inl rfl, .inl rfl, .inl rfl, trivial⟩) (⟨.inr ⟨rfl, (by first | rfl | (simp; done) | (simp; omega) | omega), fun i_ hi_ => absurd hi_ (Nat.not_lt_zero _)⟩, trivial⟩) ?_
    refine x_loop (X := (List ByteArray) × Int × Int) (fun x => mkS [(0, Sv s), (1, .val (.int .u8 by_)), (5, .arr 8), (6, I x.2.1), (7, I x.2.2)] [(8, tAS x.1)]) (fun x => (0 ≤ x.2.2 ∧ x.2.2 ≤ (s.size : Int)) ∧ (0 ≤ x.2.1 ∧ x.2.1 ≤ x.2.2) ∧ (splC (UInt8.ofNat by_.toNat) s = x.1 ++ splC (UInt8.ofNat by_.toNat) (s.extract x.2.1.toNat s.size)) ∧ (∀ j, x.2.1.toNat ≤ j → j < x.2.2.toNat → ¬ bAt s j = ((UInt8.ofNat by_.toNat).toNat : Int)) ∧ (x.1.length ≤ x.2.2.toNat) ∧ True) (fun x => ((s.size : Int) - x.2.2).toNat) (([] : List ByteArray), 0, 0) rfl (show (0 ≤ (0 : Int) ∧ (0 : Int) ≤ (s.size : Int)) ∧ (0 ≤ (0 : Int) ∧ (0 : Int) ≤ (0 : Int)) ∧ (splC (UInt8.ofNat by_.toNat) s = ([] : List ByteArray) ++ splC (UInt8.ofNat by_.toNat) (s.extract (0 : Int).toNat s.size)) ∧ (∀ j, (0 : Int).toNat ≤ j → j < (0 : Int).toNat → ¬ bAt s j = ((UInt8.ofNat by_.toNat).toNat : Int)) ∧ (([] : List ByteArray).length ≤ (0 : Int).toNat) ∧ True from ⟨(by omega), (by omega), (by rw [show (0 : Int).toNat = 0 from rfl, ext_all]; rfl), (by intro j h1 h2; omega), (by simp), trivial⟩) (fun x hI => ?_)
    obtain ⟨out, from_, i⟩ := x
    obtain ⟨hi0, hf0, hsp, hns, hol, _⟩ : (0 ≤ i ∧ i ≤ (s.size : Int)) ∧ (0 ≤ from_ ∧ from_ ≤ i) ∧ (splC (UInt8.ofNat by_.toNat) s = out ++ splC (UInt8.ofNat by_.toNat) (s.extract from_.toNat s.size)) ∧ (∀ j, from_.toNat ≤ j → j < i.toNat → ¬ bAt s j = ((UInt8.ofNat by_.toNat).toNat : Int)) ∧ (out.length ≤ i.toNat) ∧ True := hI
    show XW _ _ _ _ (mkS [(0, Sv s), (1, .val (.int .u8 by_)), (5, .arr 8), (6, I from_), (7, I i)] [(8, tAS out)]) _ _
    refine x_seq ?_
    refine x_seq ?_
    by_cases h1 : i < (s.size : Int)
    ·have hi : i.toNat < s.size := by omega
     refine x_r [(3, .dec true)] [0, 1, 5, 6, 7, 12] [8] [Sv s, .val (.int .u8 by_), .arr 8, I from_, I i, Bv true] [some (tAS out)] [i < (s.size : Int)] ⟨h1, trivial⟩ ?_
     refine xe_then ?_
     refine x_true rfl ?_
     refine x_skip ?_
     refine xe_then ?_
     refine x_seq ?_
     refine x_block ?_
     refine x_seq ?_
     by_cases h2 : (bAt s i.toNat) = by_
     ·have hq : bAt s i.toNat = ((UInt8.ofNat by_.toNat).toNat : Int) := by rw [hcu]; exact h2
      have hcut := spl_hit (c := UInt8.ofNat by_.toNat) (s := s) (a := from_.toNat) (i := i.toNat) (by omega) hi (fun j h1 h2 => hns j h1 h2) hq
      refine x_r [(4, .dec true)] [0, 1, 5, 6, 7, 19] [8] [Sv s, .val (.int .u8 by_), .arr 8, I from_, I i, Bv true] [some (tAS out)] [(0 : Int) ≤ i ∧ i < (s.size : Int), (bAt s i.toNat) = by_] ⟨⟨(by omega), (by omega)⟩, h2, trivial⟩ ?_
      refine xe_then ?_
      refine x_true rfl ?_
      refine xR [(5, .new 25), (6, .new 26)] [0, 1, 5, 7] [26] [Sv s, .val (.int .u8 by_), .arr 26, I i] [some (.arr 1 (out.length + 1) (catF out.length (fS out) (litF [Sv (s.extract from_.toNat i.toNat)] 1)))] [(0 : Int) ≤ from_ ∧ from_ ≤ i ∧ i ≤ (s.size : Int), (out.length + 1) * 16 ≤ 140737488355328] ⟨⟨(by omega), (by omega), (by omega)⟩, (by omega), trivial⟩ ?_
      refine x_r [] [0, 1, 5, 6, 7] [26] [Sv s, .val (.int .u8 by_), .arr 26, I (i + 1), I i] [some (.arr 1 (out.length + 1) (catF out.length (fS out) (litF [Sv (s.extract from_.toNat i.toNat)] 1)))] [inR .i64 (i + 1)] ⟨(inR_i64 (by omega) (by omega)), trivial⟩ ?_
      refine xe_block 1 ?_
      refine xe_then ?_
      refine x_r [] [0, 1, 5, 6, 7] [26] [Sv s, .val (.int .u8 by_), .arr 26, I (i + 1), I (i + 1)] [some (.arr 1 (out.length + 1) (catF out.length (fS out) (litF [Sv (s.extract from_.toNat i.toNat)] 1)))] [inR .i64 (i + 1)] ⟨(inR_i64 (by omega) (by omega)), trivial⟩ ?_
      refine xe_weak [(8, 26)] (T := [(0, Sv s), (1, .val (.int .u8 by_)), (5, .arr 8), (6, I (i + 1)), (7, I (i + 1))]) (O := [(8, tAS (out ++ [(s.extract from_.toNat i.toNat)]))]) rfl (⟨.inl rfl, .inl rfl, .inl rfl, .inl rfl, .inl rfl, trivial⟩) (⟨.inr ⟨rfl, (by first | rfl | (simp; done) | (simp; omega) | omega), fun i_ hi_ => .inl (cat_snoc (enc := cS) (xs := out) rfl i_ hi_)⟩, trivial⟩) (xe_again ((out ++ [(s.extract from_.toNat i.toNat)]), (i + 1), (i + 1)) rfl (show (0 ≤ (i + 1) ∧ (i + 1) ≤ (s.size : Int)) ∧ (0 ≤ (i + 1) ∧ (i + 1) ≤ (i + 1)) ∧ (splC (UInt8.ofNat by_.toNat) s = (out ++ [(s.extract from_.toNat i.toNat)]) ++ splC (UInt8.ofNat by_.toNat) (s.extract (i + 1).toNat s.size)) ∧ (∀ j, (i + 1).toNat ≤ j → j < (i + 1).toNat → ¬ bAt s j = ((UInt8.ofNat by_.toNat).toNat : Int)) ∧ ((out ++ [(s.extract from_.toNat i.toNat)]).length ≤ (i + 1).toNat) ∧ True from ⟨(by omega), (by omega), (by first | exact hsp | (rw [hsp, hcut, show (i + 1).toNat = i.toNat + 1 from by omega]; simp; done)), (by intro j h1 h2; by_cases ej : j = i.toNat; (subst ej; first | exact hq | omega); exact hns j (by omega) (by omega)), (by first | omega | (simp; omega)), trivial⟩) (by first | (show (((s.size : Int) - (i + 1)).toNat : Nat) < ((s.size : Int) - i).toNat; omega) | (dsimp only; omega)))
     have hq : ¬ bAt s i.toNat = ((UInt8.ofNat by_.toNat).toNat : Int) := by rw [hcu]; exact h2
     refine x_r [(4, .dec false)] [0, 1, 5, 6, 7, 19] [8] [Sv s, .val (.int .u8 by_), .arr 8, I from_, I i, Bv false] [some (tAS out)] [(0 : Int) ≤ i ∧ i < (s.size : Int), ¬ ((bAt s i.toNat) = by_)] ⟨⟨(by omega), (by omega)⟩, h2, trivial⟩ ?_
     refine xe_then ?_
     refine x_false rfl ?_
     refine x_skip ?_
     refine xe_block 1 ?_
     refine xe_then ?_
     refine x_r [] [0, 1, 5, 6, 7] [8] [Sv s, .val (.int .u8 by_), .arr 8, I from_, I (i + 1)] [some (tAS out)] [inR .i64 (i + 1)] ⟨(inR_i64 (by omega) (by omega)), trivial⟩ ?_
     exact xe_again (out, from_, (i + 1)) rfl (show (0 ≤ (i + 1) ∧ (i + 1) ≤ (s.size : Int)) ∧ (0 ≤ from_ ∧ from_ ≤ (i + 1)) ∧ (splC (UInt8.ofNat by_.toNat) s = out ++ splC (UInt8.ofNat by_.toNat) (s.extract from_.toNat s.size)) ∧ (∀ j, from_.toNat ≤ j → j < (i + 1).toNat → ¬ bAt s j = ((UInt8.ofNat by_.toNat).toNat : Int)) ∧ (out.length ≤ (i + 1).toNat) ∧ True from ⟨(by omega), (by omega), (by first | exact hsp | (rw [hsp, hcut, show (i + 1).toNat = i.toNat + 1 from by omega]; simp; done)), (by intro j h1 h2; by_cases ej : j = i.toNat; (subst ej; first | exact hq | omega); exact hns j (by omega) (by omega)), (by first | omega | (simp; omega)), trivial⟩) (by first | (show (((s.size : Int) - (i + 1)).toNat : Nat) < ((s.size : Int) - i).toNat; omega) | (dsimp only; omega))
    have hie : i.toNat = s.size := by omega
    refine x_r [(3, .dec false)] [0, 1, 5, 6, 7, 12] [8] [Sv s, .val (.int .u8 by_), .arr 8, I from_, I i, Bv false] [some (tAS out)] [¬ (i < (s.size : Int))] ⟨h1, trivial⟩ ?_
    refine xe_then ?_
    refine x_false rfl ?_
    refine x_exit ?_
    refine xe_exit_then ?_
    refine xe_loop_exit ?_
    refine xe_exit_same ?_
    refine xe_then ?_
    refine xR [(4, .new 33), (5, .new 34)] [4] [34] [.arr 34] [some (.arr 1 (out.length + 1) (catF out.length (fS out) (litF [Sv (s.extract from_.toNat (s.size : Int).toNat)] 1)))] [(0 : Int) ≤ from_ ∧ from_ ≤ (s.size : Int) ∧ (s.size : Int) ≤ (s.size : Int), (out.length + 1) * 16 ≤ 140737488355328] ⟨⟨(by omega), (by omega), (by omega)⟩, (by omega), trivial⟩ ?_
    refine x_ret ?_
    refine xe_end (out ++ [(s.extract from_.toNat (s.size : Int).toNat)]) (show ((out ++ [(s.extract from_.toNat (s.size : Int).toNat)]) = splB (⟨#[UInt8.ofNat by_.toNat]⟩ : ByteArray) s) ∧ (True) from ⟨(by (show _ = splC _ s; rw [hsp, spl_end (fun j h1 h2 => hns j h1 (by omega))]; first | rfl | (rw [Int.toNat_natCast]; done))), trivial⟩) (trivial) (.arr 34) (by kernel_rfl) (.inr ⟨(fun _ => rfl), rfl, (by first | rfl | (simp; done) | (simp; omega) | omega), fun i_ hi_ => .inl (cat_snoc (enc := cS) (xs := out) rfl i_ hi_)⟩) (fun _ => rfl) (fun _ => (tagS true _))
  obtain ⟨v, ⟨hh0, _⟩, hc⟩ := hh
  exact ⟨v, hh0, hc⟩



-- spec.l01Digit
theorem l01Digit_ok (c : Int) : Con Tryz.prog 83 [.val (.int .u8 c)] true (Bv (inB c 48 57)) := by
  refine fn_ok (fn := Tryz.f83) (nt := 9) Tryz.func83 rfl rfl rfl rfl (by simp [taggedL, tagged]) fun B hB => ?_
  refine aR [] [0] [] [.val (.int .u8 c)] [] [] hB trivial ?_
  refine aw_seq ?_
  by_cases h1 : 48 ≤ c
  ·refine aw_r [(1, .dec true)] [2] [] [Bv (decide (c ≤ 57))] [] [48 ≤ c] hB ⟨h1, trivial⟩ ?_
   refine ae_then ?_
   refine aw_ret ?_
   refine ae_ret hB (Bv (decide (c ≤ 57))) (by kernel_rfl) (.inl (by first | rfl | (refine congrArg Bv ?_; simp [inB, *]; done) | (refine congrArg Bv ?_; simp [inB, *]; omega) | (refine congrArg Bv ?_; simp_all [inB]; done) | (refine congrArg Bv ?_; simp_all [inB]; omega))) rfl (fun _ => trivial)
  refine aw_r [(1, .dec false)] [2] [] [Bv false] [] [¬ (48 ≤ c)] hB ⟨h1, trivial⟩ ?_
  refine ae_then ?_
  refine aw_ret ?_
  refine ae_ret hB (Bv false) (by kernel_rfl) (.inl (by first | rfl | (refine congrArg Bv ?_; simp [inB, *]; done) | (refine congrArg Bv ?_; simp [inB, *]; omega) | (refine congrArg Bv ?_; simp_all [inB]; done) | (refine congrArg Bv ?_; simp_all [inB]; omega))) rfl (fun _ => trivial)



-- spec.l01Number
theorem l01Number_ok (s : ByteArray) (hz : s.size ≤ 1000000) : ∃ (v : Int) (c : Bool), (v = dcN s) ∧ (c = dcB s) ∧ Con Tryz.prog 67 [Sv s] true (.tup [I v, Bv c]) := by
  have hh : ∃ r : Int × Bool, ((r.1 = dcN s) ∧ (r.2 = dcB s) ∧ (True)) ∧ CallOK Tryz.prog 67 [Sv s] (lookO []) true (.tup [I r.1, Bv r.2]) (lookO []) := by
    refine fn_okX (Φ := fun r : Int × Bool => (r.1 = dcN s) ∧ (r.2 = dcB s) ∧ (True)) [] (fun r => []) (fn := Tryz.f67) (nt := 56) Tryz.func67 rfl rfl (args := [Sv s]) rfl (allcons (.inl ⟨rfl, trivial⟩) allnil) (res := fun r => .tup [I r.1, Bv r.2]) ?_
    refine xR [] [0] [] [Sv s] [] [] trivial ?_
    refine xR [] [0, 4] [] [Sv s, Sv s] [] [] trivial ?_
    refine x_cut (X := ByteArray) (fun x => mkS [(0, Sv s), (4, Sv x)] []) (fun x => (unS s x) ∧ (x.size ≤ s.size) ∧ True) ?_ (fun x hI => ?_)
    ·refine x_seq ?_
     by_cases h1 : s = (⟨#[]⟩ : ByteArray)
     ·have hs0 : s.size = 0 := by rw [h1]; rfl
      refine x_r [(1, .dec false)] [0, 4, 14] [] [Sv s, Sv s, Bv false] [] [¬ (s ≠ (⟨#[]⟩ : ByteArray))] ⟨(fun hq => hq h1), trivial⟩ ?_
      refine xe_then ?_
      refine x_false rfl ?_
      refine x_skip ?_
      refine xe_weak [] (T := [(0, Sv s), (4, Sv s)]) (O := []) rfl (⟨.inl rfl, .inl rfl, trivial⟩) (trivial) (xe_cut s rfl (show (unS s s) ∧ (s.size ≤ s.size) ∧ True from ⟨(by first | exact unS_neg (by omega) (by assumption) | exact unS_pos (.inl (by omega)) | exact unS_pos (.inr (by assumption))), (by first | omega | (rw [ByteArray.size_extract]; omega)), trivial⟩))
     have hs0 : 0 < s.size := Nat.pos_of_ne_zero (fun q => h1 (ba_zero q))
     by_cases h2 : (bAt s 0) = 45
     ·refine x_r [(1, .dec true), (5, .dec true)] [0, 4, 14] [] [Sv s, Sv s, Bv true] [] [s ≠ (⟨#[]⟩ : ByteArray), (0 : Int) ≤ 0 ∧ 0 < (s.size : Int), (bAt s 0) = 45] ⟨h1, ⟨(by omega), (by omega)⟩, h2, trivial⟩ ?_
      refine xe_then ?_
      refine x_true rfl ?_
      refine x_r [] [0, 4] [] [Sv s, Sv (s.extract 1 (s.size : Int).toNat)] [] [(0 : Int) ≤ 1 ∧ (1 : Int) ≤ (s.size : Int) ∧ (s.size : Int) ≤ (s.size : Int)] ⟨⟨(by omega), (by omega), (by omega)⟩, trivial⟩ ?_
      exact xe_cut (s.extract 1 (s.size : Int).toNat) rfl (show (unS s (s.extract 1 (s.size : Int).toNat)) ∧ ((s.extract 1 (s.size : Int).toNat).size ≤ s.size) ∧ True from ⟨(by first | exact unS_neg (by omega) (by assumption) | exact unS_pos (.inl (by omega)) | exact unS_pos (.inr (by assumption))), (by first | omega | (rw [ByteArray.size_extract]; omega)), trivial⟩)
     refine x_r [(1, .dec true), (5, .dec false)] [0, 4, 14] [] [Sv s, Sv s, Bv false] [] [s ≠ (⟨#[]⟩ : ByteArray), (0 : Int) ≤ 0 ∧ 0 < (s.size : Int), ¬ ((bAt s 0) = 45)] ⟨h1, ⟨(by omega), (by omega)⟩, h2, trivial⟩ ?_
     refine xe_then ?_
     refine x_false rfl ?_
     refine x_skip ?_
     refine xe_weak [] (T := [(0, Sv s), (4, Sv s)]) (O := []) rfl (⟨.inl rfl, .inl rfl, trivial⟩) (trivial) (xe_cut s rfl (show (unS s s) ∧ (s.size ≤ s.size) ∧ True from ⟨(by first | exact unS_neg (by omega) (by assumption) | exact unS_pos (.inl (by omega)) | exact unS_pos (.inr (by assumption))), (by first | omega | (rw [ByteArray.size_extract]; omega)), trivial⟩))
    obtain ⟨t, hxx⟩ : ∃ t : ByteArray, t = x := ⟨x, rfl⟩
    subst hxx
    obtain ⟨hu, htz, _⟩ : (unS s t) ∧ (t.size ≤ s.size) ∧ True := hI
    show XW _ _ _ _ (mkS [(0, Sv s), (4, Sv t)] []) _ _
    refine x_seq ?_
    refine x_seq ?_
    by_cases h3 : (t.size : Int) < 1
    ·have hst := dcB_len (s := s) (by rw [unS_trim hu, ba_len]; omega)
     refine x_r [(2, .dec true)] [0, 4, 24] [] [Sv s, Sv t, Bv true] [] [(t.size : Int) < 1] ⟨h3, trivial⟩ ?_
     refine xe_then ?_
     refine x_true rfl ?_
     refine xR [] [2, 3] [] [I 0, Bv false] [] [] trivial ?_
     refine x_ret ?_
     refine xe_ret_then ?_
     refine xe_end (0, false) (show (0 = dcN s) ∧ (false = dcB s) ∧ (True) from ⟨(by first | (rw [hst.2]; done) | (rw [hst.1]; done) | exact hst.2.symm | exact hst.1.symm), (by first | (rw [hst.2]; done) | (rw [hst.1]; done) | exact hst.2.symm | exact hst.1.symm), trivial⟩) (trivial) (.tup [I 0, Bv false]) (by kernel_rfl) (.inl rfl) (fun _ => rfl) (fun _ => (by simp [tagged, taggedL]))
    by_cases h4 : 18 < (t.size : Int)
    ·have hst := dcB_len (s := s) (by rw [unS_trim hu, ba_len]; omega)
     refine x_r [(2, .dec false), (6, .dec true)] [0, 4, 24] [] [Sv s, Sv t, Bv true] [] [¬ ((t.size : Int) < 1), 18 < (t.size : Int)] ⟨h3, h4, trivial⟩ ?_
     refine xe_then ?_
     refine x_true rfl ?_
     refine xR [] [2, 3] [] [I 0, Bv false] [] [] trivial ?_
     refine x_ret ?_
     refine xe_ret_then ?_
     refine xe_end (0, false) (show (0 = dcN s) ∧ (false = dcB s) ∧ (True) from ⟨(by first | (rw [hst.2]; done) | (rw [hst.1]; done) | exact hst.2.symm | exact hst.1.symm), (by first | (rw [hst.2]; done) | (rw [hst.1]; done) | exact hst.2.symm | exact hst.1.symm), trivial⟩) (trivial) (.tup [I 0, Bv false]) (by kernel_rfl) (.inl rfl) (fun _ => rfl) (fun _ => (by simp [tagged, taggedL]))
    refine x_r [(2, .dec false), (6, .dec false)] [0, 4, 24] [] [Sv s, Sv t, Bv false] [] [¬ ((t.size : Int) < 1), ¬ (18 < (t.size : Int))] ⟨h3, h4, trivial⟩ ?_
    refine xe_then ?_
    refine x_false rfl ?_
    refine x_skip ?_
    refine xe_then ?_
    refine xR [] [0, 4, 5] [] [Sv s, Sv t, I 0] [] [] trivial ?_
    refine x_seq ?_
    refine xR [] [0, 4, 5, 6] [] [Sv s, Sv t, I 0, I 0] [] [] trivial ?_
    refine x_block ?_
    refine x_loop (X := Int × Int) (fun x => mkS [(0, Sv s), (4, Sv t), (5, I x.1), (6, I x.2)] []) (fun x => (0 ≤ x.2 ∧ x.2 ≤ (t.size : Int)) ∧ (x.1 = ((valL 0 (t.data.toList.take x.2.toNat) : Nat) : Int)) ∧ (∀ j, j < x.2.toNat → 48 ≤ bAt t j ∧ bAt t j ≤ 57) ∧ True) (fun x => ((t.size : Int) - x.2).toNat) (0, 0) rfl (show (0 ≤ (0 : Int) ∧ (0 : Int) ≤ (t.size : Int)) ∧ ((0 : Int) = ((valL 0 (t.data.toList.take (0 : Int).toNat) : Nat) : Int)) ∧ (∀ j, j < (0 : Int).toNat → 48 ≤ bAt t j ∧ bAt t j ≤ 57) ∧ True from ⟨(by omega), (by rfl), (by intro j hj; omega), trivial⟩) (fun x hI => ?_)
    obtain ⟨n, i⟩ := x
    obtain ⟨hi0, hnv, hdg, _⟩ : (0 ≤ i ∧ i ≤ (t.size : Int)) ∧ (n = ((valL 0 (t.data.toList.take i.toNat) : Nat) : Int)) ∧ (∀ j, j < i.toNat → 48 ≤ bAt t j ∧ bAt t j ≤ 57) ∧ True := hI
    show XW _ _ _ _ (mkS [(0, Sv s), (4, Sv t), (5, I n), (6, I i)] []) _ _
    refine x_seq ?_
    refine x_seq ?_
    by_cases h5 : i < (t.size : Int)
    ·have hi : i.toNat < t.size := by omega
     have hbd := valL_bd hdg hi (by omega)
     have hi1 : (i + 1).toNat = i.toNat + 1 := by omega
     refine x_r [(3, .dec true)] [0, 4, 5, 6, 28] [] [Sv s, Sv t, I n, I i, Bv true] [] [i < (t.size : Int)] ⟨h5, trivial⟩ ?_
     refine xe_then ?_
     refine x_true rfl ?_
     refine x_skip ?_
     refine xe_then ?_
     refine x_seq ?_
     refine x_block ?_
     refine x_seq ?_
     refine x_seq ?_
     rcases Bool.eq_false_or_eq_true (inB (bAt t i.toNat) 48 57) with h6 | h6
     ·have hdq := inB_iff.1 h6
      have hvs := valL_step hi hdq.1
      refine x_r [(3, .call [(true, .any)] true (Bv true))] [0, 4, 5, 6, 35] [] [Sv s, Sv t, I n, I i, Bv false] [] [(0 : Int) ≤ i ∧ i < (t.size : Int), Con Tryz.prog 83 [.val (.int .u8 (bAt t i.toNat))] true (Bv true) ∧ True] ⟨⟨(by omega), (by omega)⟩, ⟨(con_bool h6 (l01Digit_ok (bAt t i.toNat))), trivial⟩, trivial⟩ ?_
      refine xe_then ?_
      refine x_false rfl ?_
      refine x_skip ?_
      refine xe_then ?_
      refine x_r [] [0, 4, 5, 6] [] [Sv s, Sv t, I ((10 * n) + ((bAt t i.toNat) - 48)), I i] [] [inR .i64 (10 * n), (0 : Int) ≤ i ∧ i < (t.size : Int), inR .u8 ((bAt t i.toNat) - 48), inR .i64 ((bAt t i.toNat) - 48), inR .i64 ((10 * n) + ((bAt t i.toNat) - 48))] ⟨(inR_i64 (by omega) (by omega)), ⟨(by omega), (by omega)⟩, (inR_u8 (by omega) (by omega)), (inR_i64 (by omega) (by omega)), (inR_i64 (by omega) (by omega)), trivial⟩ ?_
      refine xe_block 1 ?_
      refine xe_then ?_
      refine x_r [] [0, 4, 5, 6] [] [Sv s, Sv t, I ((10 * n) + ((bAt t i.toNat) - 48)), I (i + 1)] [] [inR .i64 (i + 1)] ⟨(inR_i64 (by omega) (by omega)), trivial⟩ ?_
      exact xe_again (((10 * n) + ((bAt t i.toNat) - 48)), (i + 1)) rfl (show (0 ≤ (i + 1) ∧ (i + 1) ≤ (t.size : Int)) ∧ (((10 * n) + ((bAt t i.toNat) - 48)) = ((valL 0 (t.data.toList.take (i + 1).toNat) : Nat) : Int)) ∧ (∀ j, j < (i + 1).toNat → 48 ≤ bAt t j ∧ bAt t j ≤ 57) ∧ True from ⟨(by omega), (by rw [hi1, hvs, ← hnv]), (by intro j hj; by_cases ej : j = i.toNat; (subst ej; exact hdq); exact hdg j (by omega)), trivial⟩) (by first | (show (((t.size : Int) - (i + 1)).toNat : Nat) < ((t.size : Int) - i).toNat; omega) | (dsimp only; omega))
     have hst := dcB_nodig hu (fun q => by have z := q (t.data.toList[i.toNat]'(by rw [ba_len]; exact hi)) (List.getElem_mem _); have y := bAt_nat hi; have w : inB (bAt t i.toNat) 48 57 = true := inB_iff.2 (by omega); rw [h6] at w; cases w)
     refine x_r [(3, .call [(true, .any)] true (Bv false))] [0, 4, 5, 6, 35] [] [Sv s, Sv t, I n, I i, Bv true] [] [(0 : Int) ≤ i ∧ i < (t.size : Int), Con Tryz.prog 83 [.val (.int .u8 (bAt t i.toNat))] true (Bv false) ∧ True] ⟨⟨(by omega), (by omega)⟩, ⟨(con_bool h6 (l01Digit_ok (bAt t i.toNat))), trivial⟩, trivial⟩ ?_
     refine xe_then ?_
     refine x_true rfl ?_
     refine xR [] [2, 3] [] [I 0, Bv false] [] [] trivial ?_
     refine x_ret ?_
     refine xe_ret_then (xe_ret_block (xe_ret_then (xe_loop_ret (xe_ret_block (xe_ret_then ?_)))))
     refine xe_end (0, false) (show (0 = dcN s) ∧ (false = dcB s) ∧ (True) from ⟨(by first | (rw [hst.2]; done) | (rw [hst.1]; done) | exact hst.2.symm | exact hst.1.symm), (by first | (rw [hst.2]; done) | (rw [hst.1]; done) | exact hst.2.symm | exact hst.1.symm), trivial⟩) (trivial) (.tup [I 0, Bv false]) (by kernel_rfl) (.inl rfl) (fun _ => rfl) (fun _ => (by simp [tagged, taggedL]))
    have hie : i.toNat = t.size := by omega
    have hall : allDig t.data.toList := by have q := allDig_take (k := t.size) (Nat.le_refl _) (fun j hj => hdg j (by omega)); rwa [← ba_len, List.take_length] at q
    have hav := valL_all hall (by omega)
    rw [hie, ← ba_len, List.take_length] at hnv
    have hp := unS_parse hu hall ⟨by omega, by omega⟩
    have hlt : 1 ≤ (Lib.trimPrefix s.data.toList [45]).length ∧ (Lib.trimPrefix s.data.toList [45]).length ≤ 18 := by rw [unS_trim hu, ba_len]; omega
    refine x_r [(3, .dec false)] [0, 4, 5, 6, 28] [] [Sv s, Sv t, I n, I i, Bv false] [] [¬ (i < (t.size : Int))] ⟨h5, trivial⟩ ?_
    refine xe_then ?_
    refine x_false rfl ?_
    refine x_exit ?_
    refine xe_exit_then ?_
    refine xe_loop_exit ?_
    refine xe_exit_same ?_
    refine xe_then ?_
    refine x_seq ?_
    refine x_seq ?_
    by_cases h7 : (t.size : Int) < (s.size : Int)
    ·rw [if_pos (by omega), ← hnv] at hp
     refine x_r [(4, .dec true)] [0, 5, 48] [] [Sv s, I n, Bv true] [] [(t.size : Int) < (s.size : Int)] ⟨h7, trivial⟩ ?_
     refine xe_then ?_
     refine x_true rfl ?_
     refine x_r [] [0, 5] [] [Sv s, I (-n)] [] [inR .i64 (-n)] ⟨(inR_i64 (by omega) (by omega)), trivial⟩ ?_
     refine xe_then ?_
     refine x_seq ?_
     refine x_seq ?_
     by_cases h8 : (decB (-n)) = s
     ·have hst := dcB_yes hp hlt h8
      refine x_r [(1, .call [(true, .any)] true (Sv (decB (-n)))), (3, .dec false)] [5, 54] [] [I (-n), Bv false] [] [Con Tryz.prog 65 [I (-n)] true (Sv (decB (-n))) ∧ True, ¬ ((decB (-n)) ≠ s)] ⟨⟨(l01Dec_ok (-n) (by omega)), trivial⟩, (fun hq => hq h8), trivial⟩ ?_
      refine xe_then ?_
      refine x_false rfl ?_
      refine x_skip ?_
      refine xe_then ?_
      refine xR [] [2, 3] [] [I (-n), Bv true] [] [] trivial ?_
      refine x_ret ?_
      refine xe_end ((-n), true) (show ((-n) = dcN s) ∧ (true = dcB s) ∧ (True) from ⟨(by first | (rw [hst.2]; done) | (rw [hst.1]; done) | exact hst.2.symm | exact hst.1.symm), (by first | (rw [hst.2]; done) | (rw [hst.1]; done) | exact hst.2.symm | exact hst.1.symm), trivial⟩) (trivial) (.tup [I (-n), Bv true]) (by kernel_rfl) (.inl rfl) (fun _ => rfl) (fun _ => (by simp [tagged, taggedL]))
     have hst := dcB_ne hp h8
     refine x_r [(1, .call [(true, .any)] true (Sv (decB (-n)))), (3, .dec true)] [5, 54] [] [I (-n), Bv true] [] [Con Tryz.prog 65 [I (-n)] true (Sv (decB (-n))) ∧ True, (decB (-n)) ≠ s] ⟨⟨(l01Dec_ok (-n) (by omega)), trivial⟩, h8, trivial⟩ ?_
     refine xe_then ?_
     refine x_true rfl ?_
     refine xR [] [2, 3] [] [I 0, Bv false] [] [] trivial ?_
     refine x_ret ?_
     refine xe_ret_then ?_
     refine xe_end (0, false) (show (0 = dcN s) ∧ (false = dcB s) ∧ (True) from ⟨(by first | (rw [hst.2]; done) | (rw [hst.1]; done) | exact hst.2.symm | exact hst.1.symm), (by first | (rw [hst.2]; done) | (rw [hst.1]; done) | exact hst.2.symm | exact hst.1.symm), trivial⟩) (trivial) (.tup [I 0, Bv false]) (by kernel_rfl) (.inl rfl) (fun _ => rfl) (fun _ => (by simp [tagged, taggedL]))
    rw [if_neg (by omega), ← hnv] at hp
    refine x_r [(4, .dec false)] [0, 5, 48] [] [Sv s, I n, Bv false] [] [¬ ((t.size : Int) < (s.size : Int))] ⟨h7, trivial⟩ ?_
    refine xe_then ?_
    refine x_false rfl ?_
    refine x_skip ?_
    refine xe_then ?_
    refine x_seq ?_
    refine x_seq ?_
    by_cases h9 : (decB n) = s
    ·have hst := dcB_yes hp hlt h9
     refine x_r [(1, .call [(true, .any)] true (Sv (decB n))), (3, .dec false)] [5, 54] [] [I n, Bv false] [] [Con Tryz.prog 65 [I n] true (Sv (decB n)) ∧ True, ¬ ((decB n) ≠ s)] ⟨⟨(l01Dec_ok n (by omega)), trivial⟩, (fun hq => hq h9), trivial⟩ ?_
     refine xe_then ?_
     refine x_false rfl ?_
     refine x_skip ?_
     refine xe_then ?_
     refine xR [] [2, 3] [] [I n, Bv true] [] [] trivial ?_
     refine x_ret ?_
     refine xe_end (n, true) (show (n = dcN s) ∧ (true = dcB s) ∧ (True) from ⟨(by first | (rw [hst.2]; done) | (rw [hst.1]; done) | exact hst.2.symm | exact hst.1.symm), (by first | (rw [hst.2]; done) | (rw [hst.1]; done) | exact hst.2.symm | exact hst.1.symm), trivial⟩) (trivial) (.tup [I n, Bv true]) (by kernel_rfl) (.inl rfl) (fun _ => rfl) (fun _ => (by simp [tagged, taggedL]))
    have hst := dcB_ne hp h9
    refine x_r [(1, .call [(true, .any)] true (Sv (decB n))), (3, .dec true)] [5, 54] [] [I n, Bv true] [] [Con Tryz.prog 65 [I n] true (Sv (decB n)) ∧ True, (decB n) ≠ s] ⟨⟨(l01Dec_ok n (by omega)), trivial⟩, h9, trivial⟩ ?_
    refine xe_then ?_
    refine x_true rfl ?_
    refine xR [] [2, 3] [] [I 0, Bv false] [] [] trivial ?_
    refine x_ret ?_
    refine xe_ret_then ?_
    refine xe_end (0, false) (show (0 = dcN s) ∧ (false = dcB s) ∧ (True) from ⟨(by first | (rw [hst.2]; done) | (rw [hst.1]; done) | exact hst.2.symm | exact hst.1.symm), (by first | (rw [hst.2]; done) | (rw [hst.1]; done) | exact hst.2.symm | exact hst.1.symm), trivial⟩) (trivial) (.tup [I 0, Bv false]) (by kernel_rfl) (.inl rfl) (fun _ => rfl) (fun _ => (by simp [tagged, taggedL]))
  obtain ⟨⟨v, c⟩, ⟨hh0, hh1, _⟩, hc⟩ := hh
  exact ⟨v, c, hh0, hh1, hc⟩



-- spec.l20Line
theorem l20Line_ok (line : ByteArray) (hz : line.size ≤ 100000) : ∃ (v : Symbol) (c : Bool), (c = n5 line) ∧ (c = true → v = rdSy line) ∧ (v.Label.size ≤ line.size) ∧ Con Tryz.prog 41 [Sv line] true (.tup [agSymbol v, Bv c]) := by
  have hh : ∃ r : Symbol × Bool, ((r.2 = n5 line) ∧ (r.2 = true → r.1 = rdSy line) ∧ (r.1.Label.size ≤ line.size) ∧ (True)) ∧ CallOK Tryz.prog 41 [Sv line] (lookO []) true (.tup [agSymbol r.1, Bv r.2]) (lookO []) := by
    refine fn_okX (Φ := fun r : Symbol × Bool => (r.2 = n5 line) ∧ (r.2 = true → r.1 = rdSy line) ∧ (r.1.Label.size ≤ line.size) ∧ (True)) [] (fun r => []) (fn := Tryz.f41) (nt := 66) Tryz.func41 rfl rfl (args := [Sv line]) rfl (allcons (.inl ⟨rfl, trivial⟩) allnil) (res := fun r => .tup [agSymbol r.1, Bv r.2]) ?_
    refine xR [(0, .new 2)] [0, 2] [2] [Sv line, .ref 2 0] [some (.box [Sv (⟨#[]⟩ : ByteArray), I 0, I 0, I 0, I 0])] [] trivial ?_
    refine x_seq ?_
    obtain ⟨v_1, hx1_0, hc1⟩ := l01Split_ok line 32 (by omega) (by omega)
    have hwv : v_1 = splB ⟨#[32]⟩ line := by rw [hx1_0]; rfl
    have hwl := splB_len 32 line
    rw [← hwv] at hwl
    refine x_r [(1, .call [(true, .any), (true, .any)] true (slS true v_1))] [2, 4] [2] [.ref 2 0, slS true v_1] [some (.box [Sv (⟨#[]⟩ : ByteArray), I 0, I 0, I 0, I 0])] [Con Tryz.prog 40 [Sv line, .val (.int .u8 32)] true (slS true v_1) ∧ True] ⟨⟨hc1, trivial⟩, trivial⟩ ?_
    refine xe_then ?_
    refine x_seq ?_
    refine x_seq ?_
    by_cases h1 : (v_1.length : Int) = 5
    ·have hw5 : v_1.length = 5 := by omega
     have hjz := fun j_ (hj_ : j_ < 5) => splB_piece (s := line) (x := at_ v_1 j_) (by rw [← hwv]; exact at_mem (by omega))
     have hz1 := hjz 1 (by decide)
     have hz2 := hjz 2 (by decide)
     have hz3 := hjz 3 (by decide)
     have hz4 := hjz 4 (by decide)
     refine x_r [(2, .dec false)] [2, 4, 17] [2] [.ref 2 0, slS true v_1, Bv false] [some (.box [Sv (⟨#[]⟩ : ByteArray), I 0, I 0, I 0, I 0])] [¬ ((v_1.length : Int) ≠ 5)] ⟨(fun hq => hq h1), trivial⟩ ?_
     refine xe_then ?_
     refine x_false rfl ?_
     refine x_skip ?_
     refine xe_then ?_
     refine x_seq ?_
     obtain ⟨v_2, c_2, hx2_0, hx2_1, hc2⟩ := l01Number_ok (at_ v_1 1) (by omega)
     have hd1 := hx2_1
     have hv1 := hx2_0
     refine x_r [(3, .call [(true, .any)] true (.tup [I v_2, Bv c_2]))] [2, 4, 5, 6] [2] [.ref 2 0, slS true v_1, I v_2, Bv c_2] [some (.box [Sv (⟨#[]⟩ : ByteArray), I 0, I 0, I 0, I 0])] [(0 : Int) ≤ 1 ∧ 1 < (v_1.length : Int), Con Tryz.prog 67 [Sv (at_ v_1 1)] true (.tup [I v_2, Bv c_2]) ∧ True] ⟨⟨(by omega), (by omega)⟩, ⟨hc2, trivial⟩, trivial⟩ ?_
     refine xe_then ?_
     refine x_seq ?_
     obtain ⟨v_3, c_3, hx3_0, hx3_1, hc3⟩ := l01Number_ok (at_ v_1 2) (by omega)
     have hd2 := hx3_1
     have hv2 := hx3_0
     refine x_r [(3, .call [(true, .any)] true (.tup [I v_3, Bv c_3]))] [2, 4, 5, 6, 7, 8] [2] [.ref 2 0, slS true v_1, I v_2, Bv c_2, I v_3, Bv c_3] [some (.box [Sv (⟨#[]⟩ : ByteArray), I 0, I 0, I 0, I 0])] [(0 : Int) ≤ 2 ∧ 2 < (v_1.length : Int), Con Tryz.prog 67 [Sv (at_ v_1 2)] true (.tup [I v_3, Bv c_3]) ∧ True] ⟨⟨(by omega), (by omega)⟩, ⟨hc3, trivial⟩, trivial⟩ ?_
     refine xe_then ?_
     refine x_seq ?_
     obtain ⟨v_4, c_4, hx4_0, hx4_1, hc4⟩ := l01Number_ok (at_ v_1 3) (by omega)
     have hd3 := hx4_1
     have hv3 := hx4_0
     refine x_r [(3, .call [(true, .any)] true (.tup [I v_4, Bv c_4]))] [2, 4, 5, 6, 7, 8, 9, 10] [2] [.ref 2 0, slS true v_1, I v_2, Bv c_2, I v_3, Bv c_3, I v_4, Bv c_4] [some (.box [Sv (⟨#[]⟩ : ByteArray), I 0, I 0, I 0, I 0])] [(0 : Int) ≤ 3 ∧ 3 < (v_1.length : Int), Con Tryz.prog 67 [Sv (at_ v_1 3)] true (.tup [I v_4, Bv c_4]) ∧ True] ⟨⟨(by omega), (by omega)⟩, ⟨hc4, trivial⟩, trivial⟩ ?_
     refine xe_then ?_
     refine x_seq ?_
     obtain ⟨v_5, c_5, hx5_0, hx5_1, hc5⟩ := l01Number_ok (at_ v_1 4) (by omega)
     have hd4 := hx5_1
     have hv4 := hx5_0
     refine x_r [(3, .call [(true, .any)] true (.tup [I v_5, Bv c_5]))] [2, 4, 5, 6, 7, 8, 9, 10, 11, 12] [2] [.ref 2 0, slS true v_1, I v_2, Bv c_2, I v_3, Bv c_3, I v_4, Bv c_4, I v_5, Bv c_5] [some (.box [Sv (⟨#[]⟩ : ByteArray), I 0, I 0, I 0, I 0])] [(0 : Int) ≤ 4 ∧ 4 < (v_1.length : Int), Con Tryz.prog 67 [Sv (at_ v_1 4)] true (.tup [I v_5, Bv c_5]) ∧ True] ⟨⟨(by omega), (by omega)⟩, ⟨hc5, trivial⟩, trivial⟩ ?_
     refine xe_then ?_
     refine x_seq ?_
     rcases Bool.eq_false_or_eq_true c_2 with h2 | h2
     ·subst h2
      rcases Bool.eq_false_or_eq_true c_3 with h3 | h3
      ·subst h3
       rcases Bool.eq_false_or_eq_true c_4 with h4 | h4
       ·subst h4
        refine x_r [] [2, 3] [2] [.ref 2 0, Bv c_5] [some (.box [Sv (at_ v_1 0), I v_2, I v_3, I v_4, I v_5])] [(0 : Int) ≤ 0 ∧ 0 < (v_1.length : Int)] ⟨⟨(by omega), (by omega)⟩, trivial⟩ ?_
        refine xe_then ?_
        refine x_ret ?_
        refine xe_end ((Symbol.mk (at_ v_1 0) (Box.mk v_2 v_3 v_4 v_5)), c_5) (show (c_5 = n5 line) ∧ (c_5 = true → (Symbol.mk (at_ v_1 0) (Box.mk v_2 v_3 v_4 v_5)) = rdSy line) ∧ ((Symbol.mk (at_ v_1 0) (Box.mk v_2 v_3 v_4 v_5)).Label.size ≤ line.size) ∧ (True) from ⟨(by first | exact hst.symm | (intro q_; cases q_; done) | (show (⟨#[]⟩ : ByteArray).size ≤ _; exact Nat.zero_le _) | exact hjz 0 (by decide) | (unfold n5 w5; rw [← hwv, decide_eq_true hw5, ← hd1, ← hd2, ← hd3, ← hd4]; simp_all; done) | (intro _; unfold rdSy; rw [← hwv, hv1, hv2, hv3, hv4]) | (unfold n5 w5; rw [← hwv, decide_eq_true hw5]; simp_all; done)), (by first | exact hst.symm | (intro q_; cases q_; done) | (show (⟨#[]⟩ : ByteArray).size ≤ _; exact Nat.zero_le _) | exact hjz 0 (by decide) | (unfold n5 w5; rw [← hwv, decide_eq_true hw5, ← hd1, ← hd2, ← hd3, ← hd4]; simp_all; done) | (intro _; unfold rdSy; rw [← hwv, hv1, hv2, hv3, hv4]) | (unfold n5 w5; rw [← hwv, decide_eq_true hw5]; simp_all; done)), (by first | exact hst.symm | (intro q_; cases q_; done) | (show (⟨#[]⟩ : ByteArray).size ≤ _; exact Nat.zero_le _) | exact hjz 0 (by decide) | (unfold n5 w5; rw [← hwv, decide_eq_true hw5, ← hd1, ← hd2, ← hd3, ← hd4]; simp_all; done) | (intro _; unfold rdSy; rw [← hwv, hv1, hv2, hv3, hv4]) | (unfold n5 w5; rw [← hwv, decide_eq_true hw5]; simp_all; done)), trivial⟩) (trivial) (.tup [.agg [Sv (at_ v_1 0), I v_2, I v_3, I v_4, I v_5], Bv c_5]) (by kernel_rfl) (.inl rfl) (fun _ => rfl) (fun _ => (by simp [tagged, taggedL]))
       subst h4
       refine x_r [] [2, 3] [2] [.ref 2 0, Bv false] [some (.box [Sv (at_ v_1 0), I v_2, I v_3, I v_4, I v_5])] [(0 : Int) ≤ 0 ∧ 0 < (v_1.length : Int)] ⟨⟨(by omega), (by omega)⟩, trivial⟩ ?_
       refine xe_then ?_
       refine x_ret ?_
       refine xe_end ((Symbol.mk (at_ v_1 0) (Box.mk v_2 v_3 v_4 v_5)), false) (show (false = n5 line) ∧ (false = true → (Symbol.mk (at_ v_1 0) (Box.mk v_2 v_3 v_4 v_5)) = rdSy line) ∧ ((Symbol.mk (at_ v_1 0) (Box.mk v_2 v_3 v_4 v_5)).Label.size ≤ line.size) ∧ (True) from ⟨(by first | exact hst.symm | (intro q_; cases q_; done) | (show (⟨#[]⟩ : ByteArray).size ≤ _; exact Nat.zero_le _) | exact hjz 0 (by decide) | (unfold n5 w5; rw [← hwv, decide_eq_true hw5, ← hd1, ← hd2, ← hd3, ← hd4]; simp_all; done) | (intro _; unfold rdSy; rw [← hwv, hv1, hv2, hv3, hv4]) | (unfold n5 w5; rw [← hwv, decide_eq_true hw5]; simp_all; done)), (by first | exact hst.symm | (intro q_; cases q_; done) | (show (⟨#[]⟩ : ByteArray).size ≤ _; exact Nat.zero_le _) | exact hjz 0 (by decide) | (unfold n5 w5; rw [← hwv, decide_eq_true hw5, ← hd1, ← hd2, ← hd3, ← hd4]; simp_all; done) | (intro _; unfold rdSy; rw [← hwv, hv1, hv2, hv3, hv4]) | (unfold n5 w5; rw [← hwv, decide_eq_true hw5]; simp_all; done)), (by first | exact hst.symm | (intro q_; cases q_; done) | (show (⟨#[]⟩ : ByteArray).size ≤ _; exact Nat.zero_le _) | exact hjz 0 (by decide) | (unfold n5 w5; rw [← hwv, decide_eq_true hw5, ← hd1, ← hd2, ← hd3, ← hd4]; simp_all; done) | (intro _; unfold rdSy; rw [← hwv, hv1, hv2, hv3, hv4]) | (unfold n5 w5; rw [← hwv, decide_eq_true hw5]; simp_all; done)), trivial⟩) (trivial) (.tup [.agg [Sv (at_ v_1 0), I v_2, I v_3, I v_4, I v_5], Bv false]) (by kernel_rfl) (.inl rfl) (fun _ => rfl) (fun _ => (by simp [tagged, taggedL]))
      subst h3
      refine x_r [] [2, 3] [2] [.ref 2 0, Bv false] [some (.box [Sv (at_ v_1 0), I v_2, I v_3, I v_4, I v_5])] [(0 : Int) ≤ 0 ∧ 0 < (v_1.length : Int)] ⟨⟨(by omega), (by omega)⟩, trivial⟩ ?_
      refine xe_then ?_
      refine x_ret ?_
      refine xe_end ((Symbol.mk (at_ v_1 0) (Box.mk v_2 v_3 v_4 v_5)), false) (show (false = n5 line) ∧ (false = true → (Symbol.mk (at_ v_1 0) (Box.mk v_2 v_3 v_4 v_5)) = rdSy line) ∧ ((Symbol.mk (at_ v_1 0) (Box.mk v_2 v_3 v_4 v_5)).Label.size ≤ line.size) ∧ (True) from ⟨(by first | exact hst.symm | (intro q_; cases q_; done) | (show (⟨#[]⟩ : ByteArray).size ≤ _; exact Nat.zero_le _) | exact hjz 0 (by decide) | (unfold n5 w5; rw [← hwv, decide_eq_true hw5, ← hd1, ← hd2, ← hd3, ← hd4]; simp_all; done) | (intro _; unfold rdSy; rw [← hwv, hv1, hv2, hv3, hv4]) | (unfold n5 w5; rw [← hwv, decide_eq_true hw5]; simp_all; done)), (by first | exact hst.symm | (intro q_; cases q_; done) | (show (⟨#[]⟩ : ByteArray).size ≤ _; exact Nat.zero_le _) | exact hjz 0 (by decide) | (unfold n5 w5; rw [← hwv, decide_eq_true hw5, ← hd1, ← hd2, ← hd3, ← hd4]; simp_all; done) | (intro _; unfold rdSy; rw [← hwv, hv1, hv2, hv3, hv4]) | (unfold n5 w5; rw [← hwv, decide_eq_true hw5]; simp_all; done)), (by first | exact hst.symm | (intro q_; cases q_; done) | (show (⟨#[]⟩ : ByteArray).size ≤ _; exact Nat.zero_le _) | exact hjz 0 (by decide) | (unfold n5 w5; rw [← hwv, decide_eq_true hw5, ← hd1, ← hd2, ← hd3, ← hd4]; simp_all; done) | (intro _; unfold rdSy; rw [← hwv, hv1, hv2, hv3, hv4]) | (unfold n5 w5; rw [← hwv, decide_eq_true hw5]; simp_all; done)), trivial⟩) (trivial) (.tup [.agg [Sv (at_ v_1 0), I v_2, I v_3, I v_4, I v_5], Bv false]) (by kernel_rfl) (.inl rfl) (fun _ => rfl) (fun _ => (by simp [tagged, taggedL]))
     subst h2
     refine x_r [] [2, 3] [2] [.ref 2 0, Bv false] [some (.box [Sv (at_ v_1 0), I v_2, I v_3, I v_4, I v_5])] [(0 : Int) ≤ 0 ∧ 0 < (v_1.length : Int)] ⟨⟨(by omega), (by omega)⟩, trivial⟩ ?_
     refine xe_then ?_
     refine x_ret ?_
     refine xe_end ((Symbol.mk (at_ v_1 0) (Box.mk v_2 v_3 v_4 v_5)), false) (show (false = n5 line) ∧ (false = true → (Symbol.mk (at_ v_1 0) (Box.mk v_2 v_3 v_4 v_5)) = rdSy line) ∧ ((Symbol.mk (at_ v_1 0) (Box.mk v_2 v_3 v_4 v_5)).Label.size ≤ line.size) ∧ (True) from ⟨(by first | exact hst.symm | (intro q_; cases q_; done) | (show (⟨#[]⟩ : ByteArray).size ≤ _; exact Nat.zero_le _) | exact hjz 0 (by decide) | (unfold n5 w5; rw [← hwv, decide_eq_true hw5, ← hd1, ← hd2, ← hd3, ← hd4]; simp_all; done) | (intro _; unfold rdSy; rw [← hwv, hv1, hv2, hv3, hv4]) | (unfold n5 w5; rw [← hwv, decide_eq_true hw5]; simp_all; done)), (by first | exact hst.symm | (intro q_; cases q_; done) | (show (⟨#[]⟩ : ByteArray).size ≤ _; exact Nat.zero_le _) | exact hjz 0 (by decide) | (unfold n5 w5; rw [← hwv, decide_eq_true hw5, ← hd1, ← hd2, ← hd3, ← hd4]; simp_all; done) | (intro _; unfold rdSy; rw [← hwv, hv1, hv2, hv3, hv4]) | (unfold n5 w5; rw [← hwv, decide_eq_true hw5]; simp_all; done)), (by first | exact hst.symm | (intro q_; cases q_; done) | (show (⟨#[]⟩ : ByteArray).size ≤ _; exact Nat.zero_le _) | exact hjz 0 (by decide) | (unfold n5 w5; rw [← hwv, decide_eq_true hw5, ← hd1, ← hd2, ← hd3, ← hd4]; simp_all; done) | (intro _; unfold rdSy; rw [← hwv, hv1, hv2, hv3, hv4]) | (unfold n5 w5; rw [← hwv, decide_eq_true hw5]; simp_all; done)), trivial⟩) (trivial) (.tup [.agg [Sv (at_ v_1 0), I v_2, I v_3, I v_4, I v_5], Bv false]) (by kernel_rfl) (.inl rfl) (fun _ => rfl) (fun _ => (by simp [tagged, taggedL]))
    have hst : n5 line = false := by unfold n5 w5; rw [← hwv, decide_eq_false (by omega)]; rfl
    refine x_r [(2, .dec true)] [2, 4, 17] [2] [.ref 2 0, slS true v_1, Bv true] [some (.box [Sv (⟨#[]⟩ : ByteArray), I 0, I 0, I 0, I 0])] [(v_1.length : Int) ≠ 5] ⟨h1, trivial⟩ ?_
    refine xe_then ?_
    refine x_true rfl ?_
    refine xR [] [2, 3] [2] [.ref 2 0, Bv false] [some (.box [Sv (⟨#[]⟩ : ByteArray), I 0, I 0, I 0, I 0])] [] trivial ?_
    refine x_ret ?_
    refine xe_ret_then ?_
    refine xe_end ((Symbol.mk (⟨#[]⟩ : ByteArray) (Box.mk 0 0 0 0)), false) (show (false = n5 line) ∧ (false = true → (Symbol.mk (⟨#[]⟩ : ByteArray) (Box.mk 0 0 0 0)) = rdSy line) ∧ ((Symbol.mk (⟨#[]⟩ : ByteArray) (Box.mk 0 0 0 0)).Label.size ≤ line.size) ∧ (True) from ⟨(by first | exact hst.symm | (intro q_; cases q_; done) | (show (⟨#[]⟩ : ByteArray).size ≤ _; exact Nat.zero_le _) | exact hjz 0 (by decide) | (unfold n5 w5; rw [← hwv, decide_eq_true hw5, ← hd1, ← hd2, ← hd3, ← hd4]; simp_all; done) | (intro _; unfold rdSy; rw [← hwv, hv1, hv2, hv3, hv4]) | (unfold n5 w5; rw [← hwv, decide_eq_true hw5]; simp_all; done)), (by first | exact hst.symm | (intro q_; cases q_; done) | (show (⟨#[]⟩ : ByteArray).size ≤ _; exact Nat.zero_le _) | exact hjz 0 (by decide) | (unfold n5 w5; rw [← hwv, decide_eq_true hw5, ← hd1, ← hd2, ← hd3, ← hd4]; simp_all; done) | (intro _; unfold rdSy; rw [← hwv, hv1, hv2, hv3, hv4]) | (unfold n5 w5; rw [← hwv, decide_eq_true hw5]; simp_all; done)), (by first | exact hst.symm | (intro q_; cases q_; done) | (show (⟨#[]⟩ : ByteArray).size ≤ _; exact Nat.zero_le _) | exact hjz 0 (by decide) | (unfold n5 w5; rw [← hwv, decide_eq_true hw5, ← hd1, ← hd2, ← hd3, ← hd4]; simp_all; done) | (intro _; unfold rdSy; rw [← hwv, hv1, hv2, hv3, hv4]) | (unfold n5 w5; rw [← hwv, decide_eq_true hw5]; simp_all; done)), trivial⟩) (trivial) (.tup [.agg [Sv (⟨#[]⟩ : ByteArray), I 0, I 0, I 0, I 0], Bv false]) (by kernel_rfl) (.inl rfl) (fun _ => rfl) (fun _ => (by simp [tagged, taggedL]))
  obtain ⟨⟨v, c⟩, ⟨hh0, hh1, hh2, _⟩, hc⟩ := hh
  exact ⟨v, c, hh0, hh1, hh2, hc⟩


end Go.Proofs.YtlkfodajddkomaaGreatDoor.Ax
