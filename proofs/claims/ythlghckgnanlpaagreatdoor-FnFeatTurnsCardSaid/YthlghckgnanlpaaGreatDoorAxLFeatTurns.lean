/- The statement FnFeatTurns: contracts of what it reaches, and its proof. No conditions. -/
import Derived.Test.YthlghckgnanlpaaGreatDoorAxLFeatTurns2
import Derived.LaidMore
import Derived.Lay
import Derived.Lib.IndexBytes
import Derived.Lib.ItoaNum
import Derived.Lib.ParseIntBCases
import Derived.Lib.ParseIntBTie
import Derived.Lib.SplitLaws
import Derived.OpenShut
import Derived.SevenTiedAt
import Derived.Stop.Joined
import Derived.Test.YthlghckgnanlpaaGreatDoorAxBd
import Derived.Test.YthlghckgnanlpaaGreatDoorAxGr
import Derived.Test.YthlghckgnanlpaaGreatDoorAxY
namespace Go.Proofs.YthlghckgnanlpaaGreatDoor.Ax
open Go.RowKit Go.ChangeShapes Go.WideShapes
set_option linter.unusedVariables false
set_option linter.unusedSimpArgs false


-- laws.FnFeatTurns
theorem fnFeatTurns_con (code : List Int) (ok_code : ∀ y ∈ code, inR .u8 y) : Con Tryz.prog 5 [slU8 false code] true (Bv true) := by
  refine fn_ok (fn := Tryz.f5) (nt := 231) Tryz.func5 rfl rfl rfl rfl (by simp [taggedL, tagged, tagU8]) fun B hB => ?_
  refine aw_lens (x := slU8 false code) 0 rfl (fun len_code => ?_)
  simp [LenOK, LenL, cU8, fU8, slU8] at len_code
  refine aR [] [0] [] [slU8 false code] [] [] hB trivial ?_
  refine aw_seq ?_
  refine aw_seq ?_
  rcases Bool.eq_false_or_eq_true (decide (4096 < (code.length : Int))) with h1 | h1
  ·refine aw_r [(1, .call [(true, .any)] true (Bv true))] [0, 36] [] [slU8 false code, Bv true] [] [Con Tryz.prog 29 [slU8 false code] true (Bv true) ∧ True] hB ⟨⟨(con_bool h1 (f6big_ok code)), trivial⟩, trivial⟩ ?_
   refine ae_then ?_
   refine aw_true rfl ?_
   refine aR [] [2] [] [Bv true] [] [] hB trivial ?_
   refine aw_ret ?_
   refine ae_ret_then ?_
   refine ae_ret hB (Bv true) (by kernel_rfl) (.inl rfl) rfl (fun _ => trivial)
  have hc : (∀ j, j < code.length → 0 ≤ at_ code j ∧ at_ code j ≤ 255) ∧ code.length ≤ 4611686018427387904 := ⟨fun j hj => ok_code _ (at_mem hj), by first | omega | (simp at h1; omega)⟩
  refine aw_r [(1, .call [(true, .any)] true (Bv false))] [0, 36] [] [slU8 false code, Bv false] [] [Con Tryz.prog 29 [slU8 false code] true (Bv false) ∧ True] hB ⟨⟨(con_bool h1 (f6big_ok code)), trivial⟩, trivial⟩ ?_
  refine ae_then ?_
  refine aw_false rfl ?_
  refine aw_skip ?_
  refine ae_then ?_
  refine aw_seq ?_
  obtain ⟨v_1, hx1_0, hc1⟩ := DrawMirrorFeats_ok code (by assumption)
  have hfn_ := fts_ne (l := v_1)
  refine aw_r [(1, .call [(true, .any)] true (slFeat true v_1))] [0, 3] [] [slU8 false code, slFeat true v_1] [] [Con Tryz.prog 30 [slU8 false code] true (slFeat true v_1) ∧ True] hB ⟨⟨hc1, trivial⟩, trivial⟩ ?_
  refine ae_then ?_
  refine aw_seq ?_
  obtain ⟨v_2, c_2, hx2_0, hx2_1, hc2⟩ := implMirrorFeats_ok v_1
  have hv_0 : v_2 = (mirR v_1).1 := hx2_0
  have hc_0 : c_2 = (mirR v_1).2 := hx2_1
  refine aw_r [(1, .call [(false, slFeat false v_1)] true (.tup [slFeat true v_2, I c_2]))] [0, 3, 4, 5] [] [slU8 false code, slFeat true v_1, slFeat true v_2, I c_2] [] [Con Tryz.prog 31 [slFeat false v_1] true (.tup [slFeat true v_2, I c_2]) ∧ ((false = true → true = true) ∧ 3 = 3 ∧ v_1.length = v_1.length ∧ ∀ i_, i_ < v_1.length → (fFeat v_1) i_ = (fFeat v_1) i_ ∨ (AV.idsL ((fFeat v_1) i_) = [] ∧ leL (fun _ => none) false ((fFeat v_1) i_) ((fFeat v_1) i_))) ∧ True] hB ⟨⟨hc2, ⟨(fun h => by cases h), rfl, rfl, fun i _ => .inl rfl⟩, trivial⟩, trivial⟩ ?_
  refine ae_then ?_
  refine aw_seq ?_
  obtain ⟨v_3, c_3, hx3_0, hx3_1, hc3⟩ := specMirrorFeats_ok v_1
  have hv_2 : v_3 = (mirR v_1).1 := hx3_0
  have hc_2 : c_3 = (mirR v_1).2 := hx3_1
  refine aw_r [(1, .call [(false, slFeat false v_1)] true (.tup [slFeat true v_3, I c_3]))] [0, 3, 4, 5, 6, 7] [] [slU8 false code, slFeat true v_1, slFeat true v_2, I c_2, slFeat true v_3, I c_3] [] [Con Tryz.prog 32 [slFeat false v_1] true (.tup [slFeat true v_3, I c_3]) ∧ ((false = true → true = true) ∧ 3 = 3 ∧ v_1.length = v_1.length ∧ ∀ i_, i_ < v_1.length → (fFeat v_1) i_ = (fFeat v_1) i_ ∨ (AV.idsL ((fFeat v_1) i_) = [] ∧ leL (fun _ => none) false ((fFeat v_1) i_) ((fFeat v_1) i_))) ∧ True] hB ⟨⟨hc3, ⟨(fun h => by cases h), rfl, rfl, fun i _ => .inl rfl⟩, trivial⟩, trivial⟩ ?_
  refine ae_then ?_
  refine aw_seq ?_
  obtain ⟨v_4, c_4, hx4_0, hx4_1, hc4⟩ := implBackFeats_ok v_1
  have hv_4 : v_4 = (bckR v_1).1 := hx4_0
  have hc_4 : c_4 = (bckR v_1).2 := hx4_1
  refine aw_r [(1, .call [(false, slFeat false v_1)] true (.tup [slFeat true v_4, I c_4]))] [0, 3, 4, 5, 6, 7, 8, 9] [] [slU8 false code, slFeat true v_1, slFeat true v_2, I c_2, slFeat true v_3, I c_3, slFeat true v_4, I c_4] [] [Con Tryz.prog 33 [slFeat false v_1] true (.tup [slFeat true v_4, I c_4]) ∧ ((false = true → true = true) ∧ 3 = 3 ∧ v_1.length = v_1.length ∧ ∀ i_, i_ < v_1.length → (fFeat v_1) i_ = (fFeat v_1) i_ ∨ (AV.idsL ((fFeat v_1) i_) = [] ∧ leL (fun _ => none) false ((fFeat v_1) i_) ((fFeat v_1) i_))) ∧ True] hB ⟨⟨hc4, ⟨(fun h => by cases h), rfl, rfl, fun i _ => .inl rfl⟩, trivial⟩, trivial⟩ ?_
  refine ae_then ?_
  refine aw_seq ?_
  obtain ⟨v_5, c_5, hx5_0, hx5_1, hc5⟩ := specBackFeats_ok v_1
  have hv_6 : v_5 = (bckR v_1).1 := hx5_0
  have hc_6 : c_5 = (bckR v_1).2 := hx5_1
  refine aw_r [(1, .call [(false, slFeat false v_1)] true (.tup [slFeat true v_5, I c_5]))] [0, 3, 4, 5, 6, 7, 8, 9, 10, 11] [] [slU8 false code, slFeat true v_1, slFeat true v_2, I c_2, slFeat true v_3, I c_3, slFeat true v_4, I c_4, slFeat true v_5, I c_5] [] [Con Tryz.prog 34 [slFeat false v_1] true (.tup [slFeat true v_5, I c_5]) ∧ ((false = true → true = true) ∧ 3 = 3 ∧ v_1.length = v_1.length ∧ ∀ i_, i_ < v_1.length → (fFeat v_1) i_ = (fFeat v_1) i_ ∨ (AV.idsL ((fFeat v_1) i_) = [] ∧ leL (fun _ => none) false ((fFeat v_1) i_) ((fFeat v_1) i_))) ∧ True] hB ⟨⟨hc5, ⟨(fun h => by cases h), rfl, rfl, fun i _ => .inl rfl⟩, trivial⟩, trivial⟩ ?_
  refine ae_then ?_
  refine aw_seq ?_
  obtain ⟨v_6, c_6, hx6_0, hx6_1, hc6⟩ := implDirectionCounts_ok v_1
  have hv_8 : v_6 = (dirR v_1).1 := hx6_0
  have hc_8 : c_6 = (dirR v_1).2 := hx6_1
  refine aw_r [(1, .call [(false, slFeat false v_1)] true (.tup [slI true v_6, I c_6]))] [0, 3, 4, 5, 6, 7, 8, 9, 10, 11, 12, 13] [] [slU8 false code, slFeat true v_1, slFeat true v_2, I c_2, slFeat true v_3, I c_3, slFeat true v_4, I c_4, slFeat true v_5, I c_5, slI true v_6, I c_6] [] [Con Tryz.prog 35 [slFeat false v_1] true (.tup [slI true v_6, I c_6]) ∧ ((false = true → true = true) ∧ 3 = 3 ∧ v_1.length = v_1.length ∧ ∀ i_, i_ < v_1.length → (fFeat v_1) i_ = (fFeat v_1) i_ ∨ (AV.idsL ((fFeat v_1) i_) = [] ∧ leL (fun _ => none) false ((fFeat v_1) i_) ((fFeat v_1) i_))) ∧ True] hB ⟨⟨hc6, ⟨(fun h => by cases h), rfl, rfl, fun i _ => .inl rfl⟩, trivial⟩, trivial⟩ ?_
  refine ae_then ?_
  refine aw_seq ?_
  obtain ⟨v_7, c_7, hx7_0, hx7_1, hc7⟩ := specDirectionCounts_ok v_1
  have hv_10 : v_7 = (dirR v_1).1 := hx7_0
  have hc_10 : c_7 = (dirR v_1).2 := hx7_1
  refine aw_r [(1, .call [(false, slFeat false v_1)] true (.tup [slI true v_7, I c_7]))] [0, 3, 4, 5, 6, 7, 8, 9, 10, 11, 12, 13, 14, 15] [] [slU8 false code, slFeat true v_1, slFeat true v_2, I c_2, slFeat true v_3, I c_3, slFeat true v_4, I c_4, slFeat true v_5, I c_5, slI true v_6, I c_6, slI true v_7, I c_7] [] [Con Tryz.prog 36 [slFeat false v_1] true (.tup [slI true v_7, I c_7]) ∧ ((false = true → true = true) ∧ 3 = 3 ∧ v_1.length = v_1.length ∧ ∀ i_, i_ < v_1.length → (fFeat v_1) i_ = (fFeat v_1) i_ ∨ (AV.idsL ((fFeat v_1) i_) = [] ∧ leL (fun _ => none) false ((fFeat v_1) i_) ((fFeat v_1) i_))) ∧ True] hB ⟨⟨hc7, ⟨(fun h => by cases h), rfl, rfl, fun i _ => .inl rfl⟩, trivial⟩, trivial⟩ ?_
  refine ae_then ?_
  refine aw_seq ?_
  obtain ⟨v_8, c_8, hx8_0, hx8_1, hc8⟩ := implMiddleFeat_ok v_1
  have hv_12 : v_8 = (midR v_1).1 := hx8_0
  have hc_12 : c_8 = (midR v_1).2 := hx8_1
  refine aw_r [(1, .call [(false, slFeat false v_1)] true (.tup [.agg [I v_8.X, I v_8.Y], I c_8])), (5, .new 16)] [0, 3, 4, 5, 6, 7, 8, 9, 10, 11, 12, 13, 14, 15, 16, 17] [16] [slU8 false code, slFeat true v_1, slFeat true v_2, I c_2, slFeat true v_3, I c_3, slFeat true v_4, I c_4, slFeat true v_5, I c_5, slI true v_6, I c_6, slI true v_7, I c_7, .ref 16 0, I c_8] [some (.box [I v_8.X, I v_8.Y])] [Con Tryz.prog 37 [slFeat false v_1] true (.tup [.agg [I v_8.X, I v_8.Y], I c_8]) ∧ ((false = true → true = true) ∧ 3 = 3 ∧ v_1.length = v_1.length ∧ ∀ i_, i_ < v_1.length → (fFeat v_1) i_ = (fFeat v_1) i_ ∨ (AV.idsL ((fFeat v_1) i_) = [] ∧ leL (fun _ => none) false ((fFeat v_1) i_) ((fFeat v_1) i_))) ∧ True] hB ⟨⟨hc8, ⟨(fun h => by cases h), rfl, rfl, fun i _ => .inl rfl⟩, trivial⟩, trivial⟩ ?_
  refine ae_then ?_
  refine aw_seq ?_
  obtain ⟨v_9, c_9, hx9_0, hx9_1, hc9⟩ := specMiddleFeat_ok v_1
  have hv_14 : v_9 = (midR v_1).1 := hx9_0
  have hc_14 : c_9 = (midR v_1).2 := hx9_1
  refine aw_r [(1, .call [(false, slFeat false v_1)] true (.tup [.agg [I v_9.X, I v_9.Y], I c_9])), (5, .new 18)] [0, 3, 4, 5, 6, 7, 8, 9, 10, 11, 12, 13, 14, 15, 16, 17, 18, 19] [16, 18] [slU8 false code, slFeat true v_1, slFeat true v_2, I c_2, slFeat true v_3, I c_3, slFeat true v_4, I c_4, slFeat true v_5, I c_5, slI true v_6, I c_6, slI true v_7, I c_7, .ref 16 0, I c_8, .ref 18 0, I c_9] [some (.box [I v_8.X, I v_8.Y]), some (.box [I v_9.X, I v_9.Y])] [Con Tryz.prog 38 [slFeat false v_1] true (.tup [.agg [I v_9.X, I v_9.Y], I c_9]) ∧ ((false = true → true = true) ∧ 3 = 3 ∧ v_1.length = v_1.length ∧ ∀ i_, i_ < v_1.length → (fFeat v_1) i_ = (fFeat v_1) i_ ∨ (AV.idsL ((fFeat v_1) i_) = [] ∧ leL (fun _ => none) false ((fFeat v_1) i_) ((fFeat v_1) i_))) ∧ True] hB ⟨⟨hc9, ⟨(fun h => by cases h), rfl, rfl, fun i _ => .inl rfl⟩, trivial⟩, trivial⟩ ?_
  refine ae_then ?_
  refine aR [(1, .call [(false, slFeat false v_1)] true (Sv (ftsTx v_1)))] [0, 3, 4, 5, 6, 7, 8, 9, 10, 11, 12, 13, 14, 15, 16, 17, 18, 19, 20] [16, 18] [slU8 false code, slFeat true v_1, slFeat true v_2, I c_2, slFeat true v_3, I c_3, slFeat true v_4, I c_4, slFeat true v_5, I c_5, slI true v_6, I c_6, slI true v_7, I c_7, .ref 16 0, I c_8, .ref 18 0, I c_9, Sv (ftsTx v_1)] [some (.box [I v_8.X, I v_8.Y]), some (.box [I v_9.X, I v_9.Y])] [Con Tryz.prog 39 [slFeat false v_1] true (Sv (ftsTx v_1)) ∧ ((false = true → true = true) ∧ 3 = 3 ∧ v_1.length = v_1.length ∧ ∀ i_, i_ < v_1.length → (fFeat v_1) i_ = (fFeat v_1) i_ ∨ (AV.idsL ((fFeat v_1) i_) = [] ∧ leL (fun _ => none) false ((fFeat v_1) i_) ((fFeat v_1) i_))) ∧ True] hB ⟨⟨(implFeatsText_ok v_1), ⟨(fun h => by cases h), rfl, rfl, fun i _ => .inl rfl⟩, trivial⟩, trivial⟩ ?_
  refine aw_seq ?_
  obtain ⟨v_10, c_10, hx10_0, hx10_1, hc10⟩ := implReadFeats_ok (ftsTx v_1) (by first | omega | exact Nat.le_trans (fts_le _) (by decide))
  have hv_16 : v_10 = (rdfI (ftsTx v_1)).1 := hx10_0
  have hc_16 : c_10 = (rdfI (ftsTx v_1)).2 := hx10_1
  refine aw_r [(1, .call [(true, .any)] true (.tup [slFeat true v_10, Bv c_10]))] [0, 3, 4, 5, 6, 7, 8, 9, 10, 11, 12, 13, 14, 15, 16, 17, 18, 19, 20, 21, 22] [16, 18] [slU8 false code, slFeat true v_1, slFeat true v_2, I c_2, slFeat true v_3, I c_3, slFeat true v_4, I c_4, slFeat true v_5, I c_5, slI true v_6, I c_6, slI true v_7, I c_7, .ref 16 0, I c_8, .ref 18 0, I c_9, Sv (ftsTx v_1), slFeat true v_10, Bv c_10] [some (.box [I v_8.X, I v_8.Y]), some (.box [I v_9.X, I v_9.Y])] [Con Tryz.prog 40 [Sv (ftsTx v_1)] true (.tup [slFeat true v_10, Bv c_10]) ∧ True] hB ⟨⟨hc10, trivial⟩, trivial⟩ ?_
  refine ae_then ?_
  refine aw_seq ?_
  obtain ⟨v_11, hx11_0, hc11⟩ := DrawReadFeats_ok code (by assumption)
  have huz := hx11_0
  refine aw_r [(1, .call [(true, .any)] true (Sv v_11))] [3, 4, 5, 6, 7, 8, 9, 10, 11, 12, 13, 14, 15, 16, 17, 18, 19, 20, 21, 22, 23] [16, 18] [slFeat true v_1, slFeat true v_2, I c_2, slFeat true v_3, I c_3, slFeat true v_4, I c_4, slFeat true v_5, I c_5, slI true v_6, I c_6, slI true v_7, I c_7, .ref 16 0, I c_8, .ref 18 0, I c_9, Sv (ftsTx v_1), slFeat true v_10, Bv c_10, Sv v_11] [some (.box [I v_8.X, I v_8.Y]), some (.box [I v_9.X, I v_9.Y])] [Con Tryz.prog 41 [slU8 false code] true (Sv v_11) ∧ True] hB ⟨⟨hc11, trivial⟩, trivial⟩ ?_
  refine ae_then ?_
  refine aw_seq ?_
  obtain ⟨v_12, c_12, hx12_0, hx12_1, hc12⟩ := implReadFeats_ok v_11 (by first | omega | exact Nat.le_trans (fts_le _) (by decide))
  have hv_18 : v_12 = (rdfI v_11).1 := hx12_0
  have hc_18 : c_12 = (rdfI v_11).2 := hx12_1
  refine aw_r [(1, .call [(true, .any)] true (.tup [slFeat true v_12, Bv c_12]))] [3, 4, 5, 6, 7, 8, 9, 10, 11, 12, 13, 14, 15, 16, 17, 18, 19, 20, 21, 22, 23, 24, 25] [16, 18] [slFeat true v_1, slFeat true v_2, I c_2, slFeat true v_3, I c_3, slFeat true v_4, I c_4, slFeat true v_5, I c_5, slI true v_6, I c_6, slI true v_7, I c_7, .ref 16 0, I c_8, .ref 18 0, I c_9, Sv (ftsTx v_1), slFeat true v_10, Bv c_10, Sv v_11, slFeat true v_12, Bv c_12] [some (.box [I v_8.X, I v_8.Y]), some (.box [I v_9.X, I v_9.Y])] [Con Tryz.prog 40 [Sv v_11] true (.tup [slFeat true v_12, Bv c_12]) ∧ True] hB ⟨⟨hc12, trivial⟩, trivial⟩ ?_
  refine ae_then ?_
  refine aw_seq ?_
  obtain ⟨v_13, c_13, hx13_0, hx13_1, hc13⟩ := specReadFeats_ok v_11 (by first | omega | exact Nat.le_trans (fts_le _) (by decide))
  have hv_20 : v_13 = (rdfI v_11).1 := (by rw [hx13_0, rdf_eq])
  have hc_20 : c_13 = (rdfI v_11).2 := (by rw [hx13_1, rdf_eq])
  refine aw_r [(1, .call [(true, .any)] true (.tup [slFeat true v_13, Bv c_13]))] [3, 4, 5, 6, 7, 8, 9, 10, 11, 12, 13, 14, 15, 16, 17, 18, 19, 20, 21, 22, 24, 25, 26, 27] [16, 18] [slFeat true v_1, slFeat true v_2, I c_2, slFeat true v_3, I c_3, slFeat true v_4, I c_4, slFeat true v_5, I c_5, slI true v_6, I c_6, slI true v_7, I c_7, .ref 16 0, I c_8, .ref 18 0, I c_9, Sv (ftsTx v_1), slFeat true v_10, Bv c_10, slFeat true v_12, Bv c_12, slFeat true v_13, Bv c_13] [some (.box [I v_8.X, I v_8.Y]), some (.box [I v_9.X, I v_9.Y])] [Con Tryz.prog 42 [Sv v_11] true (.tup [slFeat true v_13, Bv c_13]) ∧ True] hB ⟨⟨hc13, trivial⟩, trivial⟩ ?_
  refine ae_then ?_
  refine aw_seq ?_
  refine aw_seq ?_
  by_cases h2 : (ftsTx v_1) = (⟨#[]⟩ : ByteArray)
  ·have hnf_ : rdfI (ftsTx v_1) = ([], false) := by rw [h2]; first | done | exact rdf_no0
   obtain rfl : c_10 = false := (by rw [hc_16, hnf_]; first | done | decide)
   rcases Bool.eq_false_or_eq_true c_12 with h3 | h3
   ·subst h3
    obtain rfl : c_13 = true := (hc_20.trans hc_18.symm)
    refine aw_r [(2, .dec false), (6, .call [(false, slFeat false v_2), (false, slFeat false v_3)] true (Bv true)), (12, .dec false), (17, .call [(false, slFeat false v_4), (false, slFeat false v_5)] true (Bv true)), (23, .dec false), (28, .call [(false, slI false v_6), (false, slI false v_7)] true (Bv true)), (34, .dec false), (39, .dec false), (44, .call [(false, slFeat false v_1)] true (Sv (ftsTx v_1))), (45, .dec false), (50, .dec false), (70, .call [(false, slFeat false v_12), (false, slFeat false v_13)] true (Bv true))] [3, 4, 5, 8, 12, 170] [] [slFeat true v_1, slFeat true v_2, I c_2, slFeat true v_4, slI true v_6, Bv false] [] [¬ (c_2 ≠ c_3), Con Tryz.prog 43 [slFeat false v_2, slFeat false v_3] true (Bv true) ∧ ((false = true → true = true) ∧ 3 = 3 ∧ v_2.length = v_2.length ∧ ∀ i_, i_ < v_2.length → (fFeat v_2) i_ = (fFeat v_2) i_ ∨ (AV.idsL ((fFeat v_2) i_) = [] ∧ leL (fun _ => none) false ((fFeat v_2) i_) ((fFeat v_2) i_))) ∧ ((false = true → true = true) ∧ 3 = 3 ∧ v_3.length = v_3.length ∧ ∀ i_, i_ < v_3.length → (fFeat v_3) i_ = (fFeat v_3) i_ ∨ (AV.idsL ((fFeat v_3) i_) = [] ∧ leL (fun _ => none) false ((fFeat v_3) i_) ((fFeat v_3) i_))) ∧ True, ¬ (c_4 ≠ c_5), Con Tryz.prog 43 [slFeat false v_4, slFeat false v_5] true (Bv true) ∧ ((false = true → true = true) ∧ 3 = 3 ∧ v_4.length = v_4.length ∧ ∀ i_, i_ < v_4.length → (fFeat v_4) i_ = (fFeat v_4) i_ ∨ (AV.idsL ((fFeat v_4) i_) = [] ∧ leL (fun _ => none) false ((fFeat v_4) i_) ((fFeat v_4) i_))) ∧ ((false = true → true = true) ∧ 3 = 3 ∧ v_5.length = v_5.length ∧ ∀ i_, i_ < v_5.length → (fFeat v_5) i_ = (fFeat v_5) i_ ∨ (AV.idsL ((fFeat v_5) i_) = [] ∧ leL (fun _ => none) false ((fFeat v_5) i_) ((fFeat v_5) i_))) ∧ True, ¬ (c_6 ≠ c_7), Con Tryz.prog 44 [slI false v_6, slI false v_7] true (Bv true) ∧ ((false = true → true = true) ∧ 1 = 1 ∧ v_6.length = v_6.length ∧ ∀ i_, i_ < v_6.length → (fI v_6) i_ = (fI v_6) i_ ∨ (AV.idsL ((fI v_6) i_) = [] ∧ leL (fun _ => none) false ((fI v_6) i_) ((fI v_6) i_))) ∧ ((false = true → true = true) ∧ 1 = 1 ∧ v_7.length = v_7.length ∧ ∀ i_, i_ < v_7.length → (fI v_7) i_ = (fI v_7) i_ ∨ (AV.idsL ((fI v_7) i_) = [] ∧ leL (fun _ => none) false ((fI v_7) i_) ((fI v_7) i_))) ∧ True, ¬ (c_8 ≠ c_9), ¬ (¬ (v_8.X = v_9.X ∧ v_8.Y = v_9.Y ∧ True)), Con Tryz.prog 45 [slFeat false v_1] true (Sv (ftsTx v_1)) ∧ ((false = true → true = true) ∧ 3 = 3 ∧ v_1.length = v_1.length ∧ ∀ i_, i_ < v_1.length → (fFeat v_1) i_ = (fFeat v_1) i_ ∨ (AV.idsL ((fFeat v_1) i_) = [] ∧ leL (fun _ => none) false ((fFeat v_1) i_) ((fFeat v_1) i_))) ∧ True, ¬ ((ftsTx v_1) ≠ (ftsTx v_1)), ¬ ((ftsTx v_1) ≠ (⟨#[]⟩ : ByteArray)), Con Tryz.prog 43 [slFeat false v_12, slFeat false v_13] true (Bv true) ∧ ((false = true → true = true) ∧ 3 = 3 ∧ v_12.length = v_12.length ∧ ∀ i_, i_ < v_12.length → (fFeat v_12) i_ = (fFeat v_12) i_ ∨ (AV.idsL ((fFeat v_12) i_) = [] ∧ leL (fun _ => none) false ((fFeat v_12) i_) ((fFeat v_12) i_))) ∧ ((false = true → true = true) ∧ 3 = 3 ∧ v_13.length = v_13.length ∧ ∀ i_, i_ < v_13.length → (fFeat v_13) i_ = (fFeat v_13) i_ ∨ (AV.idsL ((fFeat v_13) i_) = [] ∧ leL (fun _ => none) false ((fFeat v_13) i_) ((fFeat v_13) i_))) ∧ True] hB ⟨(fun hq => hq (hc_0.trans hc_2.symm)), ⟨(con_bool (by rw [hv_0, hv_2]; exact sameL_refl _) (specSameFeats_ok v_2 v_3)), ⟨(fun h => by cases h), rfl, rfl, fun i _ => .inl rfl⟩, ⟨(fun h => by cases h), rfl, rfl, fun i _ => .inl rfl⟩, trivial⟩, (fun hq => hq (hc_4.trans hc_6.symm)), ⟨(con_bool (by rw [hv_4, hv_6]; exact sameL_refl _) (specSameFeats_ok v_4 v_5)), ⟨(fun h => by cases h), rfl, rfl, fun i _ => .inl rfl⟩, ⟨(fun h => by cases h), rfl, rfl, fun i _ => .inl rfl⟩, trivial⟩, (fun hq => hq (hc_8.trans hc_10.symm)), ⟨(con_bool (by rw [hv_8, hv_10]; exact sameL_refl _) (f6ints_ok v_6 v_7)), ⟨(fun h => by cases h), rfl, rfl, fun i _ => .inl rfl⟩, ⟨(fun h => by cases h), rfl, rfl, fun i _ => .inl rfl⟩, trivial⟩, (fun hq => hq (hc_12.trans hc_14.symm)), (fun hq => hq (by rw [hv_12, hv_14]; exact ⟨rfl, rfl, trivial⟩)), ⟨(specFeatsText_ok v_1), ⟨(fun h => by cases h), rfl, rfl, fun i _ => .inl rfl⟩, trivial⟩, (fun hq => hq rfl), (fun hq => hq h2), ⟨(con_bool (by rw [hv_18, hv_20]; exact sameL_refl _) (specSameFeats_ok v_12 v_13)), ⟨(fun h => by cases h), rfl, rfl, fun i _ => .inl rfl⟩, ⟨(fun h => by cases h), rfl, rfl, fun i _ => .inl rfl⟩, trivial⟩, trivial⟩ ?_
    refine ae_then ?_
    refine aw_false rfl ?_
    refine aw_skip ?_
    refine ae_then ?_
    refine aw_seq ?_
    refine aw_seq ?_
    by_cases h4 : c_2 = 0
    ·have hok : okFeats v_1 384 = true := (mir_c v_1).1.1 (by rw [← hc_0]; exact h4)
     have hmm := mir_mir hok
     have hbb := bck_bck hok
     have hdm := dir_mir hok
     have hdy := dir_yes hok
     refine aw_r [(1, .dec false)] [3, 4, 8, 12, 172] [] [slFeat true v_1, slFeat true v_2, slFeat true v_4, slI true v_6, Bv false] [] [¬ (c_2 ≠ 0)] hB ⟨(fun hq => hq h4), trivial⟩ ?_
     refine ae_then ?_
     refine aw_false rfl ?_
     refine aw_skip ?_
     refine ae_then ?_
     refine aw_seq ?_
     obtain ⟨v_14, c_14, hx14_0, hx14_1, hc14⟩ := implMirrorFeats_ok v_2
     have hv_22 : v_14 = (v_1, 0).1 := by rw [hx14_0, hv_0]; exact congrArg Prod.fst hmm.1
     have hc_22 : c_14 = 0 := by rw [hx14_1, hv_0]; exact congrArg Prod.snd hmm.1
     refine aw_r [(1, .call [(false, slFeat false v_2)] true (.tup [slFeat true v_14, I c_14]))] [3, 4, 8, 12, 28, 29] [] [slFeat true v_1, slFeat true v_2, slFeat true v_4, slI true v_6, slFeat true v_14, I c_14] [] [Con Tryz.prog 31 [slFeat false v_2] true (.tup [slFeat true v_14, I c_14]) ∧ ((false = true → true = true) ∧ 3 = 3 ∧ v_2.length = v_2.length ∧ ∀ i_, i_ < v_2.length → (fFeat v_2) i_ = (fFeat v_2) i_ ∨ (AV.idsL ((fFeat v_2) i_) = [] ∧ leL (fun _ => none) false ((fFeat v_2) i_) ((fFeat v_2) i_))) ∧ True] hB ⟨⟨hc14, ⟨(fun h => by cases h), rfl, rfl, fun i _ => .inl rfl⟩, trivial⟩, trivial⟩ ?_
     refine ae_then ?_
     refine aw_seq ?_
     obtain ⟨v_15, c_15, hx15_0, hx15_1, hc15⟩ := implBackFeats_ok v_4
     have hv_24 : v_15 = (v_1, 0).1 := by rw [hx15_0, hv_4]; exact congrArg Prod.fst hbb
     have hc_24 : c_15 = 0 := by rw [hx15_1, hv_4]; exact congrArg Prod.snd hbb
     refine aw_r [(1, .call [(false, slFeat false v_4)] true (.tup [slFeat true v_15, I c_15]))] [3, 4, 12, 28, 29, 30, 31] [] [slFeat true v_1, slFeat true v_2, slI true v_6, slFeat true v_14, I c_14, slFeat true v_15, I c_15] [] [Con Tryz.prog 33 [slFeat false v_4] true (.tup [slFeat true v_15, I c_15]) ∧ ((false = true → true = true) ∧ 3 = 3 ∧ v_4.length = v_4.length ∧ ∀ i_, i_ < v_4.length → (fFeat v_4) i_ = (fFeat v_4) i_ ∨ (AV.idsL ((fFeat v_4) i_) = [] ∧ leL (fun _ => none) false ((fFeat v_4) i_) ((fFeat v_4) i_))) ∧ True] hB ⟨⟨hc15, ⟨(fun h => by cases h), rfl, rfl, fun i _ => .inl rfl⟩, trivial⟩, trivial⟩ ?_
     refine ae_then ?_
     refine aw_seq ?_
     obtain ⟨v_16, c_16, hx16_0, hx16_1, hc16⟩ := implDirectionCounts_ok v_2
     have hv_26 : v_16 = (dirC (v_1.map mirF) v_1.length, 0).1 := by rw [hx16_0, hv_0]; exact congrArg Prod.fst hdm
     have hc_26 : c_16 = 0 := by rw [hx16_1, hv_0]; exact congrArg Prod.snd hdm
     refine aw_r [(1, .call [(false, slFeat false v_2)] true (.tup [slI true v_16, I c_16]))] [3, 12, 28, 29, 30, 31, 32, 33] [] [slFeat true v_1, slI true v_6, slFeat true v_14, I c_14, slFeat true v_15, I c_15, slI true v_16, I c_16] [] [Con Tryz.prog 35 [slFeat false v_2] true (.tup [slI true v_16, I c_16]) ∧ ((false = true → true = true) ∧ 3 = 3 ∧ v_2.length = v_2.length ∧ ∀ i_, i_ < v_2.length → (fFeat v_2) i_ = (fFeat v_2) i_ ∨ (AV.idsL ((fFeat v_2) i_) = [] ∧ leL (fun _ => none) false ((fFeat v_2) i_) ((fFeat v_2) i_))) ∧ True] hB ⟨⟨hc16, ⟨(fun h => by cases h), rfl, rfl, fun i _ => .inl rfl⟩, trivial⟩, trivial⟩ ?_
     refine ae_then ?_
     refine aw_seq ?_
     refine aR [(1, .dec false), (4, .dec false), (9, .call [(false, slFeat false v_14), (false, slFeat false v_1)] true (Bv true)), (15, .call [(false, slFeat false v_15), (false, slFeat false v_1)] true (Bv true)), (20, .dec false), (25, .dec false)] [12, 32, 214] [] [slI true v_6, slI true v_16, Bv false] [] [¬ (c_14 ≠ 0), ¬ (c_15 ≠ 0), Con Tryz.prog 43 [slFeat false v_14, slFeat false v_1] true (Bv true) ∧ ((false = true → true = true) ∧ 3 = 3 ∧ v_14.length = v_14.length ∧ ∀ i_, i_ < v_14.length → (fFeat v_14) i_ = (fFeat v_14) i_ ∨ (AV.idsL ((fFeat v_14) i_) = [] ∧ leL (fun _ => none) false ((fFeat v_14) i_) ((fFeat v_14) i_))) ∧ ((false = true → true = true) ∧ 3 = 3 ∧ v_1.length = v_1.length ∧ ∀ i_, i_ < v_1.length → (fFeat v_1) i_ = (fFeat v_1) i_ ∨ (AV.idsL ((fFeat v_1) i_) = [] ∧ leL (fun _ => none) false ((fFeat v_1) i_) ((fFeat v_1) i_))) ∧ True, Con Tryz.prog 43 [slFeat false v_15, slFeat false v_1] true (Bv true) ∧ ((false = true → true = true) ∧ 3 = 3 ∧ v_15.length = v_15.length ∧ ∀ i_, i_ < v_15.length → (fFeat v_15) i_ = (fFeat v_15) i_ ∨ (AV.idsL ((fFeat v_15) i_) = [] ∧ leL (fun _ => none) false ((fFeat v_15) i_) ((fFeat v_15) i_))) ∧ ((false = true → true = true) ∧ 3 = 3 ∧ v_1.length = v_1.length ∧ ∀ i_, i_ < v_1.length → (fFeat v_1) i_ = (fFeat v_1) i_ ∨ (AV.idsL ((fFeat v_1) i_) = [] ∧ leL (fun _ => none) false ((fFeat v_1) i_) ((fFeat v_1) i_))) ∧ True, ¬ (c_16 ≠ 0), ¬ ((v_16.length : Int) ≠ 8)] hB ⟨(fun hq => hq hc_22), (fun hq => hq hc_24), ⟨(con_bool (by rw [hv_22]; exact sameL_refl _) (specSameFeats_ok v_14 v_1)), ⟨(fun h => by cases h), rfl, rfl, fun i _ => .inl rfl⟩, ⟨(fun h => by cases h), rfl, rfl, fun i _ => .inl rfl⟩, trivial⟩, ⟨(con_bool (by rw [hv_24]; exact sameL_refl _) (specSameFeats_ok v_15 v_1)), ⟨(fun h => by cases h), rfl, rfl, fun i _ => .inl rfl⟩, ⟨(fun h => by cases h), rfl, rfl, fun i _ => .inl rfl⟩, trivial⟩, (fun hq => hq hc_26), (fun hq => hq (by rw [hv_26]; show ((dirC _ _).length : Int) = 8; rw [dirC_len]; rfl)), trivial⟩ ?_
     refine aw_false rfl ?_
     refine aw_skip ?_
     refine ae_then ?_
     refine aw_seq ?_
     refine aR [] [12, 32, 34] [] [slI true v_6, slI true v_16, I 0] [] [] hB trivial ?_
     refine aw_block ?_
     refine aw_loop (fun gn gσ => ∃ (d : Int), gn = ((8 : Int) - d).toNat ∧ (0 ≤ d ∧ d ≤ 8) ∧ gσ = mkS [(12, slI true v_6), (32, slI true v_16), (34, I d)] []) (((8 : Int) - 0).toNat) ⟨0, rfl, (by omega), rfl⟩ (fun gn gσ hI => ?_)
     obtain ⟨d, rfl, hi0, rfl⟩ := hI
     refine aw_seq ?_
     refine aw_seq ?_
     by_cases h5 : d < 8
     ·have hl6 : v_6.length = 8 := by rw [hv_8, hdy]; exact dirC_len _ _
      have hl16 : v_16.length = 8 := by rw [hv_26]; exact dirC_len _ _
      refine aw_r [(1, .dec true)] [12, 32, 34, 216] [] [slI true v_6, slI true v_16, I d, Bv true] [] [d < 8] hB ⟨h5, trivial⟩ ?_
      refine ae_then ?_
      refine aw_true rfl ?_
      refine aw_skip ?_
      refine ae_then ?_
      refine aw_seq ?_
      refine aw_block ?_
      refine aR [(4, .nn), (11, .dec false)] [12, 32, 34, 230] [] [slI true v_6, slI true v_16, I d, Bv false] [] [inR .i64 (4 - d), inR .i64 ((4 - d) + 8), (0 : Int) ≤ ((4 - d) + 8) ∧ (0 : Int) < 8, (0 : Int) ≤ (((4 - d) + 8) % 8) ∧ (((4 - d) + 8) % 8) < (v_16.length : Int), (0 : Int) ≤ d ∧ d < (v_6.length : Int), ¬ ((at_ v_16 ((((4 - d) + 8) % 8).toNat)) ≠ (at_ v_6 d.toNat))] hB ⟨(inR_i64 (by omega) (by omega)), (inR_i64 (by omega) (by omega)), ⟨(by omega), (by omega)⟩, ⟨(by omega), (by omega)⟩, ⟨(by omega), (by omega)⟩, (fun hq => hq (by rw [hv_26, hv_8, hdy]; exact dirC_mir v_1 (fun j hj => okFeats_at hok hj) d (by omega) v_1.length (Nat.le_refl _))), trivial⟩ ?_
      refine aw_false rfl ?_
      refine aw_skip ?_
      refine ae_block 1 ?_
      refine ae_then ?_
      refine aw_r [] [12, 32, 34] [] [slI true v_6, slI true v_16, I (d + 1)] [] [inR .i64 (d + 1)] hB ⟨(inR_i64 (by omega) (by omega)), trivial⟩ ?_
      exact ae_again _ (by omega) ⟨(d + 1), rfl, (by omega), rfl⟩
     refine aw_r [(1, .dec false)] [12, 32, 34, 216] [] [slI true v_6, slI true v_16, I d, Bv false] [] [¬ (d < 8)] hB ⟨h5, trivial⟩ ?_
     refine ae_then ?_
     refine aw_false rfl ?_
     refine aw_exit ?_
     refine ae_exit_then ?_
     refine ae_exit_then ?_
     refine ae_exit_same ?_
     refine ae_then ?_
     refine aR [] [2] [] [Bv true] [] [] hB trivial ?_
     refine aw_ret ?_
     refine ae_ret hB (Bv true) (by kernel_rfl) (.inl rfl) rfl (fun _ => trivial)
    refine aw_r [(1, .dec true)] [3, 4, 8, 12, 172] [] [slFeat true v_1, slFeat true v_2, slFeat true v_4, slI true v_6, Bv true] [] [c_2 ≠ 0] hB ⟨h4, trivial⟩ ?_
    refine ae_then ?_
    refine aw_true rfl ?_
    refine aR [] [2] [] [Bv true] [] [] hB trivial ?_
    refine aw_ret ?_
    refine ae_ret_then ?_
    refine ae_ret hB (Bv true) (by kernel_rfl) (.inl rfl) rfl (fun _ => trivial)
   subst h3
   obtain rfl : c_13 = false := (by rw [hc_20, ← hc_18]; first | done | decide)
   refine aw_r [(2, .dec false), (6, .call [(false, slFeat false v_2), (false, slFeat false v_3)] true (Bv true)), (12, .dec false), (17, .call [(false, slFeat false v_4), (false, slFeat false v_5)] true (Bv true)), (23, .dec false), (28, .call [(false, slI false v_6), (false, slI false v_7)] true (Bv true)), (34, .dec false), (39, .dec false), (44, .call [(false, slFeat false v_1)] true (Sv (ftsTx v_1))), (45, .dec false), (50, .dec false), (70, .call [(false, slFeat false v_12), (false, slFeat false v_13)] true (Bv true))] [3, 4, 5, 8, 12, 170] [] [slFeat true v_1, slFeat true v_2, I c_2, slFeat true v_4, slI true v_6, Bv false] [] [¬ (c_2 ≠ c_3), Con Tryz.prog 43 [slFeat false v_2, slFeat false v_3] true (Bv true) ∧ ((false = true → true = true) ∧ 3 = 3 ∧ v_2.length = v_2.length ∧ ∀ i_, i_ < v_2.length → (fFeat v_2) i_ = (fFeat v_2) i_ ∨ (AV.idsL ((fFeat v_2) i_) = [] ∧ leL (fun _ => none) false ((fFeat v_2) i_) ((fFeat v_2) i_))) ∧ ((false = true → true = true) ∧ 3 = 3 ∧ v_3.length = v_3.length ∧ ∀ i_, i_ < v_3.length → (fFeat v_3) i_ = (fFeat v_3) i_ ∨ (AV.idsL ((fFeat v_3) i_) = [] ∧ leL (fun _ => none) false ((fFeat v_3) i_) ((fFeat v_3) i_))) ∧ True, ¬ (c_4 ≠ c_5), Con Tryz.prog 43 [slFeat false v_4, slFeat false v_5] true (Bv true) ∧ ((false = true → true = true) ∧ 3 = 3 ∧ v_4.length = v_4.length ∧ ∀ i_, i_ < v_4.length → (fFeat v_4) i_ = (fFeat v_4) i_ ∨ (AV.idsL ((fFeat v_4) i_) = [] ∧ leL (fun _ => none) false ((fFeat v_4) i_) ((fFeat v_4) i_))) ∧ ((false = true → true = true) ∧ 3 = 3 ∧ v_5.length = v_5.length ∧ ∀ i_, i_ < v_5.length → (fFeat v_5) i_ = (fFeat v_5) i_ ∨ (AV.idsL ((fFeat v_5) i_) = [] ∧ leL (fun _ => none) false ((fFeat v_5) i_) ((fFeat v_5) i_))) ∧ True, ¬ (c_6 ≠ c_7), Con Tryz.prog 44 [slI false v_6, slI false v_7] true (Bv true) ∧ ((false = true → true = true) ∧ 1 = 1 ∧ v_6.length = v_6.length ∧ ∀ i_, i_ < v_6.length → (fI v_6) i_ = (fI v_6) i_ ∨ (AV.idsL ((fI v_6) i_) = [] ∧ leL (fun _ => none) false ((fI v_6) i_) ((fI v_6) i_))) ∧ ((false = true → true = true) ∧ 1 = 1 ∧ v_7.length = v_7.length ∧ ∀ i_, i_ < v_7.length → (fI v_7) i_ = (fI v_7) i_ ∨ (AV.idsL ((fI v_7) i_) = [] ∧ leL (fun _ => none) false ((fI v_7) i_) ((fI v_7) i_))) ∧ True, ¬ (c_8 ≠ c_9), ¬ (¬ (v_8.X = v_9.X ∧ v_8.Y = v_9.Y ∧ True)), Con Tryz.prog 45 [slFeat false v_1] true (Sv (ftsTx v_1)) ∧ ((false = true → true = true) ∧ 3 = 3 ∧ v_1.length = v_1.length ∧ ∀ i_, i_ < v_1.length → (fFeat v_1) i_ = (fFeat v_1) i_ ∨ (AV.idsL ((fFeat v_1) i_) = [] ∧ leL (fun _ => none) false ((fFeat v_1) i_) ((fFeat v_1) i_))) ∧ True, ¬ ((ftsTx v_1) ≠ (ftsTx v_1)), ¬ ((ftsTx v_1) ≠ (⟨#[]⟩ : ByteArray)), Con Tryz.prog 43 [slFeat false v_12, slFeat false v_13] true (Bv true) ∧ ((false = true → true = true) ∧ 3 = 3 ∧ v_12.length = v_12.length ∧ ∀ i_, i_ < v_12.length → (fFeat v_12) i_ = (fFeat v_12) i_ ∨ (AV.idsL ((fFeat v_12) i_) = [] ∧ leL (fun _ => none) false ((fFeat v_12) i_) ((fFeat v_12) i_))) ∧ ((false = true → true = true) ∧ 3 = 3 ∧ v_13.length = v_13.length ∧ ∀ i_, i_ < v_13.length → (fFeat v_13) i_ = (fFeat v_13) i_ ∨ (AV.idsL ((fFeat v_13) i_) = [] ∧ leL (fun _ => none) false ((fFeat v_13) i_) ((fFeat v_13) i_))) ∧ True] hB ⟨(fun hq => hq (hc_0.trans hc_2.symm)), ⟨(con_bool (by rw [hv_0, hv_2]; exact sameL_refl _) (specSameFeats_ok v_2 v_3)), ⟨(fun h => by cases h), rfl, rfl, fun i _ => .inl rfl⟩, ⟨(fun h => by cases h), rfl, rfl, fun i _ => .inl rfl⟩, trivial⟩, (fun hq => hq (hc_4.trans hc_6.symm)), ⟨(con_bool (by rw [hv_4, hv_6]; exact sameL_refl _) (specSameFeats_ok v_4 v_5)), ⟨(fun h => by cases h), rfl, rfl, fun i _ => .inl rfl⟩, ⟨(fun h => by cases h), rfl, rfl, fun i _ => .inl rfl⟩, trivial⟩, (fun hq => hq (hc_8.trans hc_10.symm)), ⟨(con_bool (by rw [hv_8, hv_10]; exact sameL_refl _) (f6ints_ok v_6 v_7)), ⟨(fun h => by cases h), rfl, rfl, fun i _ => .inl rfl⟩, ⟨(fun h => by cases h), rfl, rfl, fun i _ => .inl rfl⟩, trivial⟩, (fun hq => hq (hc_12.trans hc_14.symm)), (fun hq => hq (by rw [hv_12, hv_14]; exact ⟨rfl, rfl, trivial⟩)), ⟨(specFeatsText_ok v_1), ⟨(fun h => by cases h), rfl, rfl, fun i _ => .inl rfl⟩, trivial⟩, (fun hq => hq rfl), (fun hq => hq h2), ⟨(con_bool (by rw [hv_18, hv_20]; exact sameL_refl _) (specSameFeats_ok v_12 v_13)), ⟨(fun h => by cases h), rfl, rfl, fun i _ => .inl rfl⟩, ⟨(fun h => by cases h), rfl, rfl, fun i _ => .inl rfl⟩, trivial⟩, trivial⟩ ?_
   refine ae_then ?_
   refine aw_false rfl ?_
   refine aw_skip ?_
   refine ae_then ?_
   refine aw_seq ?_
   refine aw_seq ?_
   by_cases h6 : c_2 = 0
   ·have hok : okFeats v_1 384 = true := (mir_c v_1).1.1 (by rw [← hc_0]; exact h6)
    have hmm := mir_mir hok
    have hbb := bck_bck hok
    have hdm := dir_mir hok
    have hdy := dir_yes hok
    refine aw_r [(1, .dec false)] [3, 4, 8, 12, 172] [] [slFeat true v_1, slFeat true v_2, slFeat true v_4, slI true v_6, Bv false] [] [¬ (c_2 ≠ 0)] hB ⟨(fun hq => hq h6), trivial⟩ ?_
    refine ae_then ?_
    refine aw_false rfl ?_
    refine aw_skip ?_
    refine ae_then ?_
    refine aw_seq ?_
    obtain ⟨v_17, c_17, hx17_0, hx17_1, hc17⟩ := implMirrorFeats_ok v_2
    have hv_28 : v_17 = (v_1, 0).1 := by rw [hx17_0, hv_0]; exact congrArg Prod.fst hmm.1
    have hc_28 : c_17 = 0 := by rw [hx17_1, hv_0]; exact congrArg Prod.snd hmm.1
    refine aw_r [(1, .call [(false, slFeat false v_2)] true (.tup [slFeat true v_17, I c_17]))] [3, 4, 8, 12, 28, 29] [] [slFeat true v_1, slFeat true v_2, slFeat true v_4, slI true v_6, slFeat true v_17, I c_17] [] [Con Tryz.prog 31 [slFeat false v_2] true (.tup [slFeat true v_17, I c_17]) ∧ ((false = true → true = true) ∧ 3 = 3 ∧ v_2.length = v_2.length ∧ ∀ i_, i_ < v_2.length → (fFeat v_2) i_ = (fFeat v_2) i_ ∨ (AV.idsL ((fFeat v_2) i_) = [] ∧ leL (fun _ => none) false ((fFeat v_2) i_) ((fFeat v_2) i_))) ∧ True] hB ⟨⟨hc17, ⟨(fun h => by cases h), rfl, rfl, fun i _ => .inl rfl⟩, trivial⟩, trivial⟩ ?_
    refine ae_then ?_
    refine aw_seq ?_
    obtain ⟨v_18, c_18, hx18_0, hx18_1, hc18⟩ := implBackFeats_ok v_4
    have hv_30 : v_18 = (v_1, 0).1 := by rw [hx18_0, hv_4]; exact congrArg Prod.fst hbb
    have hc_30 : c_18 = 0 := by rw [hx18_1, hv_4]; exact congrArg Prod.snd hbb
    refine aw_r [(1, .call [(false, slFeat false v_4)] true (.tup [slFeat true v_18, I c_18]))] [3, 4, 12, 28, 29, 30, 31] [] [slFeat true v_1, slFeat true v_2, slI true v_6, slFeat true v_17, I c_17, slFeat true v_18, I c_18] [] [Con Tryz.prog 33 [slFeat false v_4] true (.tup [slFeat true v_18, I c_18]) ∧ ((false = true → true = true) ∧ 3 = 3 ∧ v_4.length = v_4.length ∧ ∀ i_, i_ < v_4.length → (fFeat v_4) i_ = (fFeat v_4) i_ ∨ (AV.idsL ((fFeat v_4) i_) = [] ∧ leL (fun _ => none) false ((fFeat v_4) i_) ((fFeat v_4) i_))) ∧ True] hB ⟨⟨hc18, ⟨(fun h => by cases h), rfl, rfl, fun i _ => .inl rfl⟩, trivial⟩, trivial⟩ ?_
    refine ae_then ?_
    refine aw_seq ?_
    obtain ⟨v_19, c_19, hx19_0, hx19_1, hc19⟩ := implDirectionCounts_ok v_2
    have hv_32 : v_19 = (dirC (v_1.map mirF) v_1.length, 0).1 := by rw [hx19_0, hv_0]; exact congrArg Prod.fst hdm
    have hc_32 : c_19 = 0 := by rw [hx19_1, hv_0]; exact congrArg Prod.snd hdm
    refine aw_r [(1, .call [(false, slFeat false v_2)] true (.tup [slI true v_19, I c_19]))] [3, 12, 28, 29, 30, 31, 32, 33] [] [slFeat true v_1, slI true v_6, slFeat true v_17, I c_17, slFeat true v_18, I c_18, slI true v_19, I c_19] [] [Con Tryz.prog 35 [slFeat false v_2] true (.tup [slI true v_19, I c_19]) ∧ ((false = true → true = true) ∧ 3 = 3 ∧ v_2.length = v_2.length ∧ ∀ i_, i_ < v_2.length → (fFeat v_2) i_ = (fFeat v_2) i_ ∨ (AV.idsL ((fFeat v_2) i_) = [] ∧ leL (fun _ => none) false ((fFeat v_2) i_) ((fFeat v_2) i_))) ∧ True] hB ⟨⟨hc19, ⟨(fun h => by cases h), rfl, rfl, fun i _ => .inl rfl⟩, trivial⟩, trivial⟩ ?_
    refine ae_then ?_
    refine aw_seq ?_
    refine aR [(1, .dec false), (4, .dec false), (9, .call [(false, slFeat false v_17), (false, slFeat false v_1)] true (Bv true)), (15, .call [(false, slFeat false v_18), (false, slFeat false v_1)] true (Bv true)), (20, .dec false), (25, .dec false)] [12, 32, 214] [] [slI true v_6, slI true v_19, Bv false] [] [¬ (c_17 ≠ 0), ¬ (c_18 ≠ 0), Con Tryz.prog 43 [slFeat false v_17, slFeat false v_1] true (Bv true) ∧ ((false = true → true = true) ∧ 3 = 3 ∧ v_17.length = v_17.length ∧ ∀ i_, i_ < v_17.length → (fFeat v_17) i_ = (fFeat v_17) i_ ∨ (AV.idsL ((fFeat v_17) i_) = [] ∧ leL (fun _ => none) false ((fFeat v_17) i_) ((fFeat v_17) i_))) ∧ ((false = true → true = true) ∧ 3 = 3 ∧ v_1.length = v_1.length ∧ ∀ i_, i_ < v_1.length → (fFeat v_1) i_ = (fFeat v_1) i_ ∨ (AV.idsL ((fFeat v_1) i_) = [] ∧ leL (fun _ => none) false ((fFeat v_1) i_) ((fFeat v_1) i_))) ∧ True, Con Tryz.prog 43 [slFeat false v_18, slFeat false v_1] true (Bv true) ∧ ((false = true → true = true) ∧ 3 = 3 ∧ v_18.length = v_18.length ∧ ∀ i_, i_ < v_18.length → (fFeat v_18) i_ = (fFeat v_18) i_ ∨ (AV.idsL ((fFeat v_18) i_) = [] ∧ leL (fun _ => none) false ((fFeat v_18) i_) ((fFeat v_18) i_))) ∧ ((false = true → true = true) ∧ 3 = 3 ∧ v_1.length = v_1.length ∧ ∀ i_, i_ < v_1.length → (fFeat v_1) i_ = (fFeat v_1) i_ ∨ (AV.idsL ((fFeat v_1) i_) = [] ∧ leL (fun _ => none) false ((fFeat v_1) i_) ((fFeat v_1) i_))) ∧ True, ¬ (c_19 ≠ 0), ¬ ((v_19.length : Int) ≠ 8)] hB ⟨(fun hq => hq hc_28), (fun hq => hq hc_30), ⟨(con_bool (by rw [hv_28]; exact sameL_refl _) (specSameFeats_ok v_17 v_1)), ⟨(fun h => by cases h), rfl, rfl, fun i _ => .inl rfl⟩, ⟨(fun h => by cases h), rfl, rfl, fun i _ => .inl rfl⟩, trivial⟩, ⟨(con_bool (by rw [hv_30]; exact sameL_refl _) (specSameFeats_ok v_18 v_1)), ⟨(fun h => by cases h), rfl, rfl, fun i _ => .inl rfl⟩, ⟨(fun h => by cases h), rfl, rfl, fun i _ => .inl rfl⟩, trivial⟩, (fun hq => hq hc_32), (fun hq => hq (by rw [hv_32]; show ((dirC _ _).length : Int) = 8; rw [dirC_len]; rfl)), trivial⟩ ?_
    refine aw_false rfl ?_
    refine aw_skip ?_
    refine ae_then ?_
    refine aw_seq ?_
    refine aR [] [12, 32, 34] [] [slI true v_6, slI true v_19, I 0] [] [] hB trivial ?_
    refine aw_block ?_
    refine aw_loop (fun gn gσ => ∃ (d : Int), gn = ((8 : Int) - d).toNat ∧ (0 ≤ d ∧ d ≤ 8) ∧ gσ = mkS [(12, slI true v_6), (32, slI true v_19), (34, I d)] []) (((8 : Int) - 0).toNat) ⟨0, rfl, (by omega), rfl⟩ (fun gn gσ hI => ?_)
    obtain ⟨d, rfl, hi0, rfl⟩ := hI
    refine aw_seq ?_
    refine aw_seq ?_
    by_cases h7 : d < 8
    ·have hl6 : v_6.length = 8 := by rw [hv_8, hdy]; exact dirC_len _ _
     have hl16 : v_19.length = 8 := by rw [hv_32]; exact dirC_len _ _
     refine aw_r [(1, .dec true)] [12, 32, 34, 216] [] [slI true v_6, slI true v_19, I d, Bv true] [] [d < 8] hB ⟨h7, trivial⟩ ?_
     refine ae_then ?_
     refine aw_true rfl ?_
     refine aw_skip ?_
     refine ae_then ?_
     refine aw_seq ?_
     refine aw_block ?_
     refine aR [(4, .nn), (11, .dec false)] [12, 32, 34, 230] [] [slI true v_6, slI true v_19, I d, Bv false] [] [inR .i64 (4 - d), inR .i64 ((4 - d) + 8), (0 : Int) ≤ ((4 - d) + 8) ∧ (0 : Int) < 8, (0 : Int) ≤ (((4 - d) + 8) % 8) ∧ (((4 - d) + 8) % 8) < (v_19.length : Int), (0 : Int) ≤ d ∧ d < (v_6.length : Int), ¬ ((at_ v_19 ((((4 - d) + 8) % 8).toNat)) ≠ (at_ v_6 d.toNat))] hB ⟨(inR_i64 (by omega) (by omega)), (inR_i64 (by omega) (by omega)), ⟨(by omega), (by omega)⟩, ⟨(by omega), (by omega)⟩, ⟨(by omega), (by omega)⟩, (fun hq => hq (by rw [hv_32, hv_8, hdy]; exact dirC_mir v_1 (fun j hj => okFeats_at hok hj) d (by omega) v_1.length (Nat.le_refl _))), trivial⟩ ?_
     refine aw_false rfl ?_
     refine aw_skip ?_
     refine ae_block 1 ?_
     refine ae_then ?_
     refine aw_r [] [12, 32, 34] [] [slI true v_6, slI true v_19, I (d + 1)] [] [inR .i64 (d + 1)] hB ⟨(inR_i64 (by omega) (by omega)), trivial⟩ ?_
     exact ae_again _ (by omega) ⟨(d + 1), rfl, (by omega), rfl⟩
    refine aw_r [(1, .dec false)] [12, 32, 34, 216] [] [slI true v_6, slI true v_19, I d, Bv false] [] [¬ (d < 8)] hB ⟨h7, trivial⟩ ?_
    refine ae_then ?_
    refine aw_false rfl ?_
    refine aw_exit ?_
    refine ae_exit_then ?_
    refine ae_exit_then ?_
    refine ae_exit_same ?_
    refine ae_then ?_
    refine aR [] [2] [] [Bv true] [] [] hB trivial ?_
    refine aw_ret ?_
    refine ae_ret hB (Bv true) (by kernel_rfl) (.inl rfl) rfl (fun _ => trivial)
   refine aw_r [(1, .dec true)] [3, 4, 8, 12, 172] [] [slFeat true v_1, slFeat true v_2, slFeat true v_4, slI true v_6, Bv true] [] [c_2 ≠ 0] hB ⟨h6, trivial⟩ ?_
   refine ae_then ?_
   refine aw_true rfl ?_
   refine aR [] [2] [] [Bv true] [] [] hB trivial ?_
   refine aw_ret ?_
   refine ae_ret_then ?_
   refine ae_ret hB (Bv true) (by kernel_rfl) (.inl rfl) rfl (fun _ => trivial)
  have hok_ : okFeats v_1 384 = true := by rcases hfn_ with q | q; exact q.1; exact absurd q.2 h2
  have hrt := rdf_tx hok_
  obtain rfl : c_10 = true := (by rw [hc_16, hrt])
  rcases Bool.eq_false_or_eq_true c_12 with h8 | h8
  ·subst h8
   obtain rfl : c_13 = true := (hc_20.trans hc_18.symm)
   refine aw_r [(2, .dec false), (6, .call [(false, slFeat false v_2), (false, slFeat false v_3)] true (Bv true)), (12, .dec false), (17, .call [(false, slFeat false v_4), (false, slFeat false v_5)] true (Bv true)), (23, .dec false), (28, .call [(false, slI false v_6), (false, slI false v_7)] true (Bv true)), (34, .dec false), (39, .dec false), (44, .call [(false, slFeat false v_1)] true (Sv (ftsTx v_1))), (45, .dec false), (50, .dec true), (58, .call [(false, slFeat false v_10), (false, slFeat false v_1)] true (Bv true)), (70, .call [(false, slFeat false v_12), (false, slFeat false v_13)] true (Bv true))] [3, 4, 5, 8, 12, 170] [] [slFeat true v_1, slFeat true v_2, I c_2, slFeat true v_4, slI true v_6, Bv false] [] [¬ (c_2 ≠ c_3), Con Tryz.prog 43 [slFeat false v_2, slFeat false v_3] true (Bv true) ∧ ((false = true → true = true) ∧ 3 = 3 ∧ v_2.length = v_2.length ∧ ∀ i_, i_ < v_2.length → (fFeat v_2) i_ = (fFeat v_2) i_ ∨ (AV.idsL ((fFeat v_2) i_) = [] ∧ leL (fun _ => none) false ((fFeat v_2) i_) ((fFeat v_2) i_))) ∧ ((false = true → true = true) ∧ 3 = 3 ∧ v_3.length = v_3.length ∧ ∀ i_, i_ < v_3.length → (fFeat v_3) i_ = (fFeat v_3) i_ ∨ (AV.idsL ((fFeat v_3) i_) = [] ∧ leL (fun _ => none) false ((fFeat v_3) i_) ((fFeat v_3) i_))) ∧ True, ¬ (c_4 ≠ c_5), Con Tryz.prog 43 [slFeat false v_4, slFeat false v_5] true (Bv true) ∧ ((false = true → true = true) ∧ 3 = 3 ∧ v_4.length = v_4.length ∧ ∀ i_, i_ < v_4.length → (fFeat v_4) i_ = (fFeat v_4) i_ ∨ (AV.idsL ((fFeat v_4) i_) = [] ∧ leL (fun _ => none) false ((fFeat v_4) i_) ((fFeat v_4) i_))) ∧ ((false = true → true = true) ∧ 3 = 3 ∧ v_5.length = v_5.length ∧ ∀ i_, i_ < v_5.length → (fFeat v_5) i_ = (fFeat v_5) i_ ∨ (AV.idsL ((fFeat v_5) i_) = [] ∧ leL (fun _ => none) false ((fFeat v_5) i_) ((fFeat v_5) i_))) ∧ True, ¬ (c_6 ≠ c_7), Con Tryz.prog 44 [slI false v_6, slI false v_7] true (Bv true) ∧ ((false = true → true = true) ∧ 1 = 1 ∧ v_6.length = v_6.length ∧ ∀ i_, i_ < v_6.length → (fI v_6) i_ = (fI v_6) i_ ∨ (AV.idsL ((fI v_6) i_) = [] ∧ leL (fun _ => none) false ((fI v_6) i_) ((fI v_6) i_))) ∧ ((false = true → true = true) ∧ 1 = 1 ∧ v_7.length = v_7.length ∧ ∀ i_, i_ < v_7.length → (fI v_7) i_ = (fI v_7) i_ ∨ (AV.idsL ((fI v_7) i_) = [] ∧ leL (fun _ => none) false ((fI v_7) i_) ((fI v_7) i_))) ∧ True, ¬ (c_8 ≠ c_9), ¬ (¬ (v_8.X = v_9.X ∧ v_8.Y = v_9.Y ∧ True)), Con Tryz.prog 45 [slFeat false v_1] true (Sv (ftsTx v_1)) ∧ ((false = true → true = true) ∧ 3 = 3 ∧ v_1.length = v_1.length ∧ ∀ i_, i_ < v_1.length → (fFeat v_1) i_ = (fFeat v_1) i_ ∨ (AV.idsL ((fFeat v_1) i_) = [] ∧ leL (fun _ => none) false ((fFeat v_1) i_) ((fFeat v_1) i_))) ∧ True, ¬ ((ftsTx v_1) ≠ (ftsTx v_1)), (ftsTx v_1) ≠ (⟨#[]⟩ : ByteArray), Con Tryz.prog 43 [slFeat false v_10, slFeat false v_1] true (Bv true) ∧ ((false = true → true = true) ∧ 3 = 3 ∧ v_10.length = v_10.length ∧ ∀ i_, i_ < v_10.length → (fFeat v_10) i_ = (fFeat v_10) i_ ∨ (AV.idsL ((fFeat v_10) i_) = [] ∧ leL (fun _ => none) false ((fFeat v_10) i_) ((fFeat v_10) i_))) ∧ ((false = true → true = true) ∧ 3 = 3 ∧ v_1.length = v_1.length ∧ ∀ i_, i_ < v_1.length → (fFeat v_1) i_ = (fFeat v_1) i_ ∨ (AV.idsL ((fFeat v_1) i_) = [] ∧ leL (fun _ => none) false ((fFeat v_1) i_) ((fFeat v_1) i_))) ∧ True, Con Tryz.prog 43 [slFeat false v_12, slFeat false v_13] true (Bv true) ∧ ((false = true → true = true) ∧ 3 = 3 ∧ v_12.length = v_12.length ∧ ∀ i_, i_ < v_12.length → (fFeat v_12) i_ = (fFeat v_12) i_ ∨ (AV.idsL ((fFeat v_12) i_) = [] ∧ leL (fun _ => none) false ((fFeat v_12) i_) ((fFeat v_12) i_))) ∧ ((false = true → true = true) ∧ 3 = 3 ∧ v_13.length = v_13.length ∧ ∀ i_, i_ < v_13.length → (fFeat v_13) i_ = (fFeat v_13) i_ ∨ (AV.idsL ((fFeat v_13) i_) = [] ∧ leL (fun _ => none) false ((fFeat v_13) i_) ((fFeat v_13) i_))) ∧ True] hB ⟨(fun hq => hq (hc_0.trans hc_2.symm)), ⟨(con_bool (by rw [hv_0, hv_2]; exact sameL_refl _) (specSameFeats_ok v_2 v_3)), ⟨(fun h => by cases h), rfl, rfl, fun i _ => .inl rfl⟩, ⟨(fun h => by cases h), rfl, rfl, fun i _ => .inl rfl⟩, trivial⟩, (fun hq => hq (hc_4.trans hc_6.symm)), ⟨(con_bool (by rw [hv_4, hv_6]; exact sameL_refl _) (specSameFeats_ok v_4 v_5)), ⟨(fun h => by cases h), rfl, rfl, fun i _ => .inl rfl⟩, ⟨(fun h => by cases h), rfl, rfl, fun i _ => .inl rfl⟩, trivial⟩, (fun hq => hq (hc_8.trans hc_10.symm)), ⟨(con_bool (by rw [hv_8, hv_10]; exact sameL_refl _) (f6ints_ok v_6 v_7)), ⟨(fun h => by cases h), rfl, rfl, fun i _ => .inl rfl⟩, ⟨(fun h => by cases h), rfl, rfl, fun i _ => .inl rfl⟩, trivial⟩, (fun hq => hq (hc_12.trans hc_14.symm)), (fun hq => hq (by rw [hv_12, hv_14]; exact ⟨rfl, rfl, trivial⟩)), ⟨(specFeatsText_ok v_1), ⟨(fun h => by cases h), rfl, rfl, fun i _ => .inl rfl⟩, trivial⟩, (fun hq => hq rfl), h2, ⟨(con_bool (by rw [hv_16, hrt]; exact sameL_refl _) (specSameFeats_ok v_10 v_1)), ⟨(fun h => by cases h), rfl, rfl, fun i _ => .inl rfl⟩, ⟨(fun h => by cases h), rfl, rfl, fun i _ => .inl rfl⟩, trivial⟩, ⟨(con_bool (by rw [hv_18, hv_20]; exact sameL_refl _) (specSameFeats_ok v_12 v_13)), ⟨(fun h => by cases h), rfl, rfl, fun i _ => .inl rfl⟩, ⟨(fun h => by cases h), rfl, rfl, fun i _ => .inl rfl⟩, trivial⟩, trivial⟩ ?_
   refine ae_then ?_
   refine aw_false rfl ?_
   refine aw_skip ?_
   refine ae_then ?_
   refine aw_seq ?_
   refine aw_seq ?_
   by_cases h9 : c_2 = 0
   ·have hok : okFeats v_1 384 = true := (mir_c v_1).1.1 (by rw [← hc_0]; exact h9)
    have hmm := mir_mir hok
    have hbb := bck_bck hok
    have hdm := dir_mir hok
    have hdy := dir_yes hok
    refine aw_r [(1, .dec false)] [3, 4, 8, 12, 172] [] [slFeat true v_1, slFeat true v_2, slFeat true v_4, slI true v_6, Bv false] [] [¬ (c_2 ≠ 0)] hB ⟨(fun hq => hq h9), trivial⟩ ?_
    refine ae_then ?_
    refine aw_false rfl ?_
    refine aw_skip ?_
    refine ae_then ?_
    refine aw_seq ?_
    obtain ⟨v_20, c_20, hx20_0, hx20_1, hc20⟩ := implMirrorFeats_ok v_2
    have hv_34 : v_20 = (v_1, 0).1 := by rw [hx20_0, hv_0]; exact congrArg Prod.fst hmm.1
    have hc_34 : c_20 = 0 := by rw [hx20_1, hv_0]; exact congrArg Prod.snd hmm.1
    refine aw_r [(1, .call [(false, slFeat false v_2)] true (.tup [slFeat true v_20, I c_20]))] [3, 4, 8, 12, 28, 29] [] [slFeat true v_1, slFeat true v_2, slFeat true v_4, slI true v_6, slFeat true v_20, I c_20] [] [Con Tryz.prog 31 [slFeat false v_2] true (.tup [slFeat true v_20, I c_20]) ∧ ((false = true → true = true) ∧ 3 = 3 ∧ v_2.length = v_2.length ∧ ∀ i_, i_ < v_2.length → (fFeat v_2) i_ = (fFeat v_2) i_ ∨ (AV.idsL ((fFeat v_2) i_) = [] ∧ leL (fun _ => none) false ((fFeat v_2) i_) ((fFeat v_2) i_))) ∧ True] hB ⟨⟨hc20, ⟨(fun h => by cases h), rfl, rfl, fun i _ => .inl rfl⟩, trivial⟩, trivial⟩ ?_
    refine ae_then ?_
    refine aw_seq ?_
    obtain ⟨v_21, c_21, hx21_0, hx21_1, hc21⟩ := implBackFeats_ok v_4
    have hv_36 : v_21 = (v_1, 0).1 := by rw [hx21_0, hv_4]; exact congrArg Prod.fst hbb
    have hc_36 : c_21 = 0 := by rw [hx21_1, hv_4]; exact congrArg Prod.snd hbb
    refine aw_r [(1, .call [(false, slFeat false v_4)] true (.tup [slFeat true v_21, I c_21]))] [3, 4, 12, 28, 29, 30, 31] [] [slFeat true v_1, slFeat true v_2, slI true v_6, slFeat true v_20, I c_20, slFeat true v_21, I c_21] [] [Con Tryz.prog 33 [slFeat false v_4] true (.tup [slFeat true v_21, I c_21]) ∧ ((false = true → true = true) ∧ 3 = 3 ∧ v_4.length = v_4.length ∧ ∀ i_, i_ < v_4.length → (fFeat v_4) i_ = (fFeat v_4) i_ ∨ (AV.idsL ((fFeat v_4) i_) = [] ∧ leL (fun _ => none) false ((fFeat v_4) i_) ((fFeat v_4) i_))) ∧ True] hB ⟨⟨hc21, ⟨(fun h => by cases h), rfl, rfl, fun i _ => .inl rfl⟩, trivial⟩, trivial⟩ ?_
    refine ae_then ?_
    refine aw_seq ?_
    obtain ⟨v_22, c_22, hx22_0, hx22_1, hc22⟩ := implDirectionCounts_ok v_2
    have hv_38 : v_22 = (dirC (v_1.map mirF) v_1.length, 0).1 := by rw [hx22_0, hv_0]; exact congrArg Prod.fst hdm
    have hc_38 : c_22 = 0 := by rw [hx22_1, hv_0]; exact congrArg Prod.snd hdm
    refine aw_r [(1, .call [(false, slFeat false v_2)] true (.tup [slI true v_22, I c_22]))] [3, 12, 28, 29, 30, 31, 32, 33] [] [slFeat true v_1, slI true v_6, slFeat true v_20, I c_20, slFeat true v_21, I c_21, slI true v_22, I c_22] [] [Con Tryz.prog 35 [slFeat false v_2] true (.tup [slI true v_22, I c_22]) ∧ ((false = true → true = true) ∧ 3 = 3 ∧ v_2.length = v_2.length ∧ ∀ i_, i_ < v_2.length → (fFeat v_2) i_ = (fFeat v_2) i_ ∨ (AV.idsL ((fFeat v_2) i_) = [] ∧ leL (fun _ => none) false ((fFeat v_2) i_) ((fFeat v_2) i_))) ∧ True] hB ⟨⟨hc22, ⟨(fun h => by cases h), rfl, rfl, fun i _ => .inl rfl⟩, trivial⟩, trivial⟩ ?_
    refine ae_then ?_
    refine aw_seq ?_
    refine aR [(1, .dec false), (4, .dec false), (9, .call [(false, slFeat false v_20), (false, slFeat false v_1)] true (Bv true)), (15, .call [(false, slFeat false v_21), (false, slFeat false v_1)] true (Bv true)), (20, .dec false), (25, .dec false)] [12, 32, 214] [] [slI true v_6, slI true v_22, Bv false] [] [¬ (c_20 ≠ 0), ¬ (c_21 ≠ 0), Con Tryz.prog 43 [slFeat false v_20, slFeat false v_1] true (Bv true) ∧ ((false = true → true = true) ∧ 3 = 3 ∧ v_20.length = v_20.length ∧ ∀ i_, i_ < v_20.length → (fFeat v_20) i_ = (fFeat v_20) i_ ∨ (AV.idsL ((fFeat v_20) i_) = [] ∧ leL (fun _ => none) false ((fFeat v_20) i_) ((fFeat v_20) i_))) ∧ ((false = true → true = true) ∧ 3 = 3 ∧ v_1.length = v_1.length ∧ ∀ i_, i_ < v_1.length → (fFeat v_1) i_ = (fFeat v_1) i_ ∨ (AV.idsL ((fFeat v_1) i_) = [] ∧ leL (fun _ => none) false ((fFeat v_1) i_) ((fFeat v_1) i_))) ∧ True, Con Tryz.prog 43 [slFeat false v_21, slFeat false v_1] true (Bv true) ∧ ((false = true → true = true) ∧ 3 = 3 ∧ v_21.length = v_21.length ∧ ∀ i_, i_ < v_21.length → (fFeat v_21) i_ = (fFeat v_21) i_ ∨ (AV.idsL ((fFeat v_21) i_) = [] ∧ leL (fun _ => none) false ((fFeat v_21) i_) ((fFeat v_21) i_))) ∧ ((false = true → true = true) ∧ 3 = 3 ∧ v_1.length = v_1.length ∧ ∀ i_, i_ < v_1.length → (fFeat v_1) i_ = (fFeat v_1) i_ ∨ (AV.idsL ((fFeat v_1) i_) = [] ∧ leL (fun _ => none) false ((fFeat v_1) i_) ((fFeat v_1) i_))) ∧ True, ¬ (c_22 ≠ 0), ¬ ((v_22.length : Int) ≠ 8)] hB ⟨(fun hq => hq hc_34), (fun hq => hq hc_36), ⟨(con_bool (by rw [hv_34]; exact sameL_refl _) (specSameFeats_ok v_20 v_1)), ⟨(fun h => by cases h), rfl, rfl, fun i _ => .inl rfl⟩, ⟨(fun h => by cases h), rfl, rfl, fun i _ => .inl rfl⟩, trivial⟩, ⟨(con_bool (by rw [hv_36]; exact sameL_refl _) (specSameFeats_ok v_21 v_1)), ⟨(fun h => by cases h), rfl, rfl, fun i _ => .inl rfl⟩, ⟨(fun h => by cases h), rfl, rfl, fun i _ => .inl rfl⟩, trivial⟩, (fun hq => hq hc_38), (fun hq => hq (by rw [hv_38]; show ((dirC _ _).length : Int) = 8; rw [dirC_len]; rfl)), trivial⟩ ?_
    refine aw_false rfl ?_
    refine aw_skip ?_
    refine ae_then ?_
    refine aw_seq ?_
    refine aR [] [12, 32, 34] [] [slI true v_6, slI true v_22, I 0] [] [] hB trivial ?_
    refine aw_block ?_
    refine aw_loop (fun gn gσ => ∃ (d : Int), gn = ((8 : Int) - d).toNat ∧ (0 ≤ d ∧ d ≤ 8) ∧ gσ = mkS [(12, slI true v_6), (32, slI true v_22), (34, I d)] []) (((8 : Int) - 0).toNat) ⟨0, rfl, (by omega), rfl⟩ (fun gn gσ hI => ?_)
    obtain ⟨d, rfl, hi0, rfl⟩ := hI
    refine aw_seq ?_
    refine aw_seq ?_
    by_cases h10 : d < 8
    ·have hl6 : v_6.length = 8 := by rw [hv_8, hdy]; exact dirC_len _ _
     have hl16 : v_22.length = 8 := by rw [hv_38]; exact dirC_len _ _
     refine aw_r [(1, .dec true)] [12, 32, 34, 216] [] [slI true v_6, slI true v_22, I d, Bv true] [] [d < 8] hB ⟨h10, trivial⟩ ?_
     refine ae_then ?_
     refine aw_true rfl ?_
     refine aw_skip ?_
     refine ae_then ?_
     refine aw_seq ?_
     refine aw_block ?_
     refine aR [(4, .nn), (11, .dec false)] [12, 32, 34, 230] [] [slI true v_6, slI true v_22, I d, Bv false] [] [inR .i64 (4 - d), inR .i64 ((4 - d) + 8), (0 : Int) ≤ ((4 - d) + 8) ∧ (0 : Int) < 8, (0 : Int) ≤ (((4 - d) + 8) % 8) ∧ (((4 - d) + 8) % 8) < (v_22.length : Int), (0 : Int) ≤ d ∧ d < (v_6.length : Int), ¬ ((at_ v_22 ((((4 - d) + 8) % 8).toNat)) ≠ (at_ v_6 d.toNat))] hB ⟨(inR_i64 (by omega) (by omega)), (inR_i64 (by omega) (by omega)), ⟨(by omega), (by omega)⟩, ⟨(by omega), (by omega)⟩, ⟨(by omega), (by omega)⟩, (fun hq => hq (by rw [hv_38, hv_8, hdy]; exact dirC_mir v_1 (fun j hj => okFeats_at hok hj) d (by omega) v_1.length (Nat.le_refl _))), trivial⟩ ?_
     refine aw_false rfl ?_
     refine aw_skip ?_
     refine ae_block 1 ?_
     refine ae_then ?_
     refine aw_r [] [12, 32, 34] [] [slI true v_6, slI true v_22, I (d + 1)] [] [inR .i64 (d + 1)] hB ⟨(inR_i64 (by omega) (by omega)), trivial⟩ ?_
     exact ae_again _ (by omega) ⟨(d + 1), rfl, (by omega), rfl⟩
    refine aw_r [(1, .dec false)] [12, 32, 34, 216] [] [slI true v_6, slI true v_22, I d, Bv false] [] [¬ (d < 8)] hB ⟨h10, trivial⟩ ?_
    refine ae_then ?_
    refine aw_false rfl ?_
    refine aw_exit ?_
    refine ae_exit_then ?_
    refine ae_exit_then ?_
    refine ae_exit_same ?_
    refine ae_then ?_
    refine aR [] [2] [] [Bv true] [] [] hB trivial ?_
    refine aw_ret ?_
    refine ae_ret hB (Bv true) (by kernel_rfl) (.inl rfl) rfl (fun _ => trivial)
   refine aw_r [(1, .dec true)] [3, 4, 8, 12, 172] [] [slFeat true v_1, slFeat true v_2, slFeat true v_4, slI true v_6, Bv true] [] [c_2 ≠ 0] hB ⟨h9, trivial⟩ ?_
   refine ae_then ?_
   refine aw_true rfl ?_
   refine aR [] [2] [] [Bv true] [] [] hB trivial ?_
   refine aw_ret ?_
   refine ae_ret_then ?_
   refine ae_ret hB (Bv true) (by kernel_rfl) (.inl rfl) rfl (fun _ => trivial)
  subst h8
  obtain rfl : c_13 = false := (by rw [hc_20, ← hc_18]; first | done | decide)
  refine aw_r [(2, .dec false), (6, .call [(false, slFeat false v_2), (false, slFeat false v_3)] true (Bv true)), (12, .dec false), (17, .call [(false, slFeat false v_4), (false, slFeat false v_5)] true (Bv true)), (23, .dec false), (28, .call [(false, slI false v_6), (false, slI false v_7)] true (Bv true)), (34, .dec false), (39, .dec false), (44, .call [(false, slFeat false v_1)] true (Sv (ftsTx v_1))), (45, .dec false), (50, .dec true), (58, .call [(false, slFeat false v_10), (false, slFeat false v_1)] true (Bv true)), (70, .call [(false, slFeat false v_12), (false, slFeat false v_13)] true (Bv true))] [3, 4, 5, 8, 12, 170] [] [slFeat true v_1, slFeat true v_2, I c_2, slFeat true v_4, slI true v_6, Bv false] [] [¬ (c_2 ≠ c_3), Con Tryz.prog 43 [slFeat false v_2, slFeat false v_3] true (Bv true) ∧ ((false = true → true = true) ∧ 3 = 3 ∧ v_2.length = v_2.length ∧ ∀ i_, i_ < v_2.length → (fFeat v_2) i_ = (fFeat v_2) i_ ∨ (AV.idsL ((fFeat v_2) i_) = [] ∧ leL (fun _ => none) false ((fFeat v_2) i_) ((fFeat v_2) i_))) ∧ ((false = true → true = true) ∧ 3 = 3 ∧ v_3.length = v_3.length ∧ ∀ i_, i_ < v_3.length → (fFeat v_3) i_ = (fFeat v_3) i_ ∨ (AV.idsL ((fFeat v_3) i_) = [] ∧ leL (fun _ => none) false ((fFeat v_3) i_) ((fFeat v_3) i_))) ∧ True, ¬ (c_4 ≠ c_5), Con Tryz.prog 43 [slFeat false v_4, slFeat false v_5] true (Bv true) ∧ ((false = true → true = true) ∧ 3 = 3 ∧ v_4.length = v_4.length ∧ ∀ i_, i_ < v_4.length → (fFeat v_4) i_ = (fFeat v_4) i_ ∨ (AV.idsL ((fFeat v_4) i_) = [] ∧ leL (fun _ => none) false ((fFeat v_4) i_) ((fFeat v_4) i_))) ∧ ((false = true → true = true) ∧ 3 = 3 ∧ v_5.length = v_5.length ∧ ∀ i_, i_ < v_5.length → (fFeat v_5) i_ = (fFeat v_5) i_ ∨ (AV.idsL ((fFeat v_5) i_) = [] ∧ leL (fun _ => none) false ((fFeat v_5) i_) ((fFeat v_5) i_))) ∧ True, ¬ (c_6 ≠ c_7), Con Tryz.prog 44 [slI false v_6, slI false v_7] true (Bv true) ∧ ((false = true → true = true) ∧ 1 = 1 ∧ v_6.length = v_6.length ∧ ∀ i_, i_ < v_6.length → (fI v_6) i_ = (fI v_6) i_ ∨ (AV.idsL ((fI v_6) i_) = [] ∧ leL (fun _ => none) false ((fI v_6) i_) ((fI v_6) i_))) ∧ ((false = true → true = true) ∧ 1 = 1 ∧ v_7.length = v_7.length ∧ ∀ i_, i_ < v_7.length → (fI v_7) i_ = (fI v_7) i_ ∨ (AV.idsL ((fI v_7) i_) = [] ∧ leL (fun _ => none) false ((fI v_7) i_) ((fI v_7) i_))) ∧ True, ¬ (c_8 ≠ c_9), ¬ (¬ (v_8.X = v_9.X ∧ v_8.Y = v_9.Y ∧ True)), Con Tryz.prog 45 [slFeat false v_1] true (Sv (ftsTx v_1)) ∧ ((false = true → true = true) ∧ 3 = 3 ∧ v_1.length = v_1.length ∧ ∀ i_, i_ < v_1.length → (fFeat v_1) i_ = (fFeat v_1) i_ ∨ (AV.idsL ((fFeat v_1) i_) = [] ∧ leL (fun _ => none) false ((fFeat v_1) i_) ((fFeat v_1) i_))) ∧ True, ¬ ((ftsTx v_1) ≠ (ftsTx v_1)), (ftsTx v_1) ≠ (⟨#[]⟩ : ByteArray), Con Tryz.prog 43 [slFeat false v_10, slFeat false v_1] true (Bv true) ∧ ((false = true → true = true) ∧ 3 = 3 ∧ v_10.length = v_10.length ∧ ∀ i_, i_ < v_10.length → (fFeat v_10) i_ = (fFeat v_10) i_ ∨ (AV.idsL ((fFeat v_10) i_) = [] ∧ leL (fun _ => none) false ((fFeat v_10) i_) ((fFeat v_10) i_))) ∧ ((false = true → true = true) ∧ 3 = 3 ∧ v_1.length = v_1.length ∧ ∀ i_, i_ < v_1.length → (fFeat v_1) i_ = (fFeat v_1) i_ ∨ (AV.idsL ((fFeat v_1) i_) = [] ∧ leL (fun _ => none) false ((fFeat v_1) i_) ((fFeat v_1) i_))) ∧ True, Con Tryz.prog 43 [slFeat false v_12, slFeat false v_13] true (Bv true) ∧ ((false = true → true = true) ∧ 3 = 3 ∧ v_12.length = v_12.length ∧ ∀ i_, i_ < v_12.length → (fFeat v_12) i_ = (fFeat v_12) i_ ∨ (AV.idsL ((fFeat v_12) i_) = [] ∧ leL (fun _ => none) false ((fFeat v_12) i_) ((fFeat v_12) i_))) ∧ ((false = true → true = true) ∧ 3 = 3 ∧ v_13.length = v_13.length ∧ ∀ i_, i_ < v_13.length → (fFeat v_13) i_ = (fFeat v_13) i_ ∨ (AV.idsL ((fFeat v_13) i_) = [] ∧ leL (fun _ => none) false ((fFeat v_13) i_) ((fFeat v_13) i_))) ∧ True] hB ⟨(fun hq => hq (hc_0.trans hc_2.symm)), ⟨(con_bool (by rw [hv_0, hv_2]; exact sameL_refl _) (specSameFeats_ok v_2 v_3)), ⟨(fun h => by cases h), rfl, rfl, fun i _ => .inl rfl⟩, ⟨(fun h => by cases h), rfl, rfl, fun i _ => .inl rfl⟩, trivial⟩, (fun hq => hq (hc_4.trans hc_6.symm)), ⟨(con_bool (by rw [hv_4, hv_6]; exact sameL_refl _) (specSameFeats_ok v_4 v_5)), ⟨(fun h => by cases h), rfl, rfl, fun i _ => .inl rfl⟩, ⟨(fun h => by cases h), rfl, rfl, fun i _ => .inl rfl⟩, trivial⟩, (fun hq => hq (hc_8.trans hc_10.symm)), ⟨(con_bool (by rw [hv_8, hv_10]; exact sameL_refl _) (f6ints_ok v_6 v_7)), ⟨(fun h => by cases h), rfl, rfl, fun i _ => .inl rfl⟩, ⟨(fun h => by cases h), rfl, rfl, fun i _ => .inl rfl⟩, trivial⟩, (fun hq => hq (hc_12.trans hc_14.symm)), (fun hq => hq (by rw [hv_12, hv_14]; exact ⟨rfl, rfl, trivial⟩)), ⟨(specFeatsText_ok v_1), ⟨(fun h => by cases h), rfl, rfl, fun i _ => .inl rfl⟩, trivial⟩, (fun hq => hq rfl), h2, ⟨(con_bool (by rw [hv_16, hrt]; exact sameL_refl _) (specSameFeats_ok v_10 v_1)), ⟨(fun h => by cases h), rfl, rfl, fun i _ => .inl rfl⟩, ⟨(fun h => by cases h), rfl, rfl, fun i _ => .inl rfl⟩, trivial⟩, ⟨(con_bool (by rw [hv_18, hv_20]; exact sameL_refl _) (specSameFeats_ok v_12 v_13)), ⟨(fun h => by cases h), rfl, rfl, fun i _ => .inl rfl⟩, ⟨(fun h => by cases h), rfl, rfl, fun i _ => .inl rfl⟩, trivial⟩, trivial⟩ ?_
  refine ae_then ?_
  refine aw_false rfl ?_
  refine aw_skip ?_
  refine ae_then ?_
  refine aw_seq ?_
  refine aw_seq ?_
  by_cases h11 : c_2 = 0
  ·have hok : okFeats v_1 384 = true := (mir_c v_1).1.1 (by rw [← hc_0]; exact h11)
   have hmm := mir_mir hok
   have hbb := bck_bck hok
   have hdm := dir_mir hok
   have hdy := dir_yes hok
   refine aw_r [(1, .dec false)] [3, 4, 8, 12, 172] [] [slFeat true v_1, slFeat true v_2, slFeat true v_4, slI true v_6, Bv false] [] [¬ (c_2 ≠ 0)] hB ⟨(fun hq => hq h11), trivial⟩ ?_
   refine ae_then ?_
   refine aw_false rfl ?_
   refine aw_skip ?_
   refine ae_then ?_
   refine aw_seq ?_
   obtain ⟨v_23, c_23, hx23_0, hx23_1, hc23⟩ := implMirrorFeats_ok v_2
   have hv_40 : v_23 = (v_1, 0).1 := by rw [hx23_0, hv_0]; exact congrArg Prod.fst hmm.1
   have hc_40 : c_23 = 0 := by rw [hx23_1, hv_0]; exact congrArg Prod.snd hmm.1
   refine aw_r [(1, .call [(false, slFeat false v_2)] true (.tup [slFeat true v_23, I c_23]))] [3, 4, 8, 12, 28, 29] [] [slFeat true v_1, slFeat true v_2, slFeat true v_4, slI true v_6, slFeat true v_23, I c_23] [] [Con Tryz.prog 31 [slFeat false v_2] true (.tup [slFeat true v_23, I c_23]) ∧ ((false = true → true = true) ∧ 3 = 3 ∧ v_2.length = v_2.length ∧ ∀ i_, i_ < v_2.length → (fFeat v_2) i_ = (fFeat v_2) i_ ∨ (AV.idsL ((fFeat v_2) i_) = [] ∧ leL (fun _ => none) false ((fFeat v_2) i_) ((fFeat v_2) i_))) ∧ True] hB ⟨⟨hc23, ⟨(fun h => by cases h), rfl, rfl, fun i _ => .inl rfl⟩, trivial⟩, trivial⟩ ?_
   refine ae_then ?_
   refine aw_seq ?_
   obtain ⟨v_24, c_24, hx24_0, hx24_1, hc24⟩ := implBackFeats_ok v_4
   have hv_42 : v_24 = (v_1, 0).1 := by rw [hx24_0, hv_4]; exact congrArg Prod.fst hbb
   have hc_42 : c_24 = 0 := by rw [hx24_1, hv_4]; exact congrArg Prod.snd hbb
   refine aw_r [(1, .call [(false, slFeat false v_4)] true (.tup [slFeat true v_24, I c_24]))] [3, 4, 12, 28, 29, 30, 31] [] [slFeat true v_1, slFeat true v_2, slI true v_6, slFeat true v_23, I c_23, slFeat true v_24, I c_24] [] [Con Tryz.prog 33 [slFeat false v_4] true (.tup [slFeat true v_24, I c_24]) ∧ ((false = true → true = true) ∧ 3 = 3 ∧ v_4.length = v_4.length ∧ ∀ i_, i_ < v_4.length → (fFeat v_4) i_ = (fFeat v_4) i_ ∨ (AV.idsL ((fFeat v_4) i_) = [] ∧ leL (fun _ => none) false ((fFeat v_4) i_) ((fFeat v_4) i_))) ∧ True] hB ⟨⟨hc24, ⟨(fun h => by cases h), rfl, rfl, fun i _ => .inl rfl⟩, trivial⟩, trivial⟩ ?_
   refine ae_then ?_
   refine aw_seq ?_
   obtain ⟨v_25, c_25, hx25_0, hx25_1, hc25⟩ := implDirectionCounts_ok v_2
   have hv_44 : v_25 = (dirC (v_1.map mirF) v_1.length, 0).1 := by rw [hx25_0, hv_0]; exact congrArg Prod.fst hdm
   have hc_44 : c_25 = 0 := by rw [hx25_1, hv_0]; exact congrArg Prod.snd hdm
   refine aw_r [(1, .call [(false, slFeat false v_2)] true (.tup [slI true v_25, I c_25]))] [3, 12, 28, 29, 30, 31, 32, 33] [] [slFeat true v_1, slI true v_6, slFeat true v_23, I c_23, slFeat true v_24, I c_24, slI true v_25, I c_25] [] [Con Tryz.prog 35 [slFeat false v_2] true (.tup [slI true v_25, I c_25]) ∧ ((false = true → true = true) ∧ 3 = 3 ∧ v_2.length = v_2.length ∧ ∀ i_, i_ < v_2.length → (fFeat v_2) i_ = (fFeat v_2) i_ ∨ (AV.idsL ((fFeat v_2) i_) = [] ∧ leL (fun _ => none) false ((fFeat v_2) i_) ((fFeat v_2) i_))) ∧ True] hB ⟨⟨hc25, ⟨(fun h => by cases h), rfl, rfl, fun i _ => .inl rfl⟩, trivial⟩, trivial⟩ ?_
   refine ae_then ?_
   refine aw_seq ?_
   refine aR [(1, .dec false), (4, .dec false), (9, .call [(false, slFeat false v_23), (false, slFeat false v_1)] true (Bv true)), (15, .call [(false, slFeat false v_24), (false, slFeat false v_1)] true (Bv true)), (20, .dec false), (25, .dec false)] [12, 32, 214] [] [slI true v_6, slI true v_25, Bv false] [] [¬ (c_23 ≠ 0), ¬ (c_24 ≠ 0), Con Tryz.prog 43 [slFeat false v_23, slFeat false v_1] true (Bv true) ∧ ((false = true → true = true) ∧ 3 = 3 ∧ v_23.length = v_23.length ∧ ∀ i_, i_ < v_23.length → (fFeat v_23) i_ = (fFeat v_23) i_ ∨ (AV.idsL ((fFeat v_23) i_) = [] ∧ leL (fun _ => none) false ((fFeat v_23) i_) ((fFeat v_23) i_))) ∧ ((false = true → true = true) ∧ 3 = 3 ∧ v_1.length = v_1.length ∧ ∀ i_, i_ < v_1.length → (fFeat v_1) i_ = (fFeat v_1) i_ ∨ (AV.idsL ((fFeat v_1) i_) = [] ∧ leL (fun _ => none) false ((fFeat v_1) i_) ((fFeat v_1) i_))) ∧ True, Con Tryz.prog 43 [slFeat false v_24, slFeat false v_1] true (Bv true) ∧ ((false = true → true = true) ∧ 3 = 3 ∧ v_24.length = v_24.length ∧ ∀ i_, i_ < v_24.length → (fFeat v_24) i_ = (fFeat v_24) i_ ∨ (AV.idsL ((fFeat v_24) i_) = [] ∧ leL (fun _ => none) false ((fFeat v_24) i_) ((fFeat v_24) i_))) ∧ ((false = true → true = true) ∧ 3 = 3 ∧ v_1.length = v_1.length ∧ ∀ i_, i_ < v_1.length → (fFeat v_1) i_ = (fFeat v_1) i_ ∨ (AV.idsL ((fFeat v_1) i_) = [] ∧ leL (fun _ => none) false ((fFeat v_1) i_) ((fFeat v_1) i_))) ∧ True, ¬ (c_25 ≠ 0), ¬ ((v_25.length : Int) ≠ 8)] hB ⟨(fun hq => hq hc_40), (fun hq => hq hc_42), ⟨(con_bool (by rw [hv_40]; exact sameL_refl _) (specSameFeats_ok v_23 v_1)), ⟨(fun h => by cases h), rfl, rfl, fun i _ => .inl rfl⟩, ⟨(fun h => by cases h), rfl, rfl, fun i _ => .inl rfl⟩, trivial⟩, ⟨(con_bool (by rw [hv_42]; exact sameL_refl _) (specSameFeats_ok v_24 v_1)), ⟨(fun h => by cases h), rfl, rfl, fun i _ => .inl rfl⟩, ⟨(fun h => by cases h), rfl, rfl, fun i _ => .inl rfl⟩, trivial⟩, (fun hq => hq hc_44), (fun hq => hq (by rw [hv_44]; show ((dirC _ _).length : Int) = 8; rw [dirC_len]; rfl)), trivial⟩ ?_
   refine aw_false rfl ?_
   refine aw_skip ?_
   refine ae_then ?_
   refine aw_seq ?_
   refine aR [] [12, 32, 34] [] [slI true v_6, slI true v_25, I 0] [] [] hB trivial ?_
   refine aw_block ?_
   refine aw_loop (fun gn gσ => ∃ (d : Int), gn = ((8 : Int) - d).toNat ∧ (0 ≤ d ∧ d ≤ 8) ∧ gσ = mkS [(12, slI true v_6), (32, slI true v_25), (34, I d)] []) (((8 : Int) - 0).toNat) ⟨0, rfl, (by omega), rfl⟩ (fun gn gσ hI => ?_)
   obtain ⟨d, rfl, hi0, rfl⟩ := hI
   refine aw_seq ?_
   refine aw_seq ?_
   by_cases h12 : d < 8
   ·have hl6 : v_6.length = 8 := by rw [hv_8, hdy]; exact dirC_len _ _
    have hl16 : v_25.length = 8 := by rw [hv_44]; exact dirC_len _ _
    refine aw_r [(1, .dec true)] [12, 32, 34, 216] [] [slI true v_6, slI true v_25, I d, Bv true] [] [d < 8] hB ⟨h12, trivial⟩ ?_
    refine ae_then ?_
    refine aw_true rfl ?_
    refine aw_skip ?_
    refine ae_then ?_
    refine aw_seq ?_
    refine aw_block ?_
    refine aR [(4, .nn), (11, .dec false)] [12, 32, 34, 230] [] [slI true v_6, slI true v_25, I d, Bv false] [] [inR .i64 (4 - d), inR .i64 ((4 - d) + 8), (0 : Int) ≤ ((4 - d) + 8) ∧ (0 : Int) < 8, (0 : Int) ≤ (((4 - d) + 8) % 8) ∧ (((4 - d) + 8) % 8) < (v_25.length : Int), (0 : Int) ≤ d ∧ d < (v_6.length : Int), ¬ ((at_ v_25 ((((4 - d) + 8) % 8).toNat)) ≠ (at_ v_6 d.toNat))] hB ⟨(inR_i64 (by omega) (by omega)), (inR_i64 (by omega) (by omega)), ⟨(by omega), (by omega)⟩, ⟨(by omega), (by omega)⟩, ⟨(by omega), (by omega)⟩, (fun hq => hq (by rw [hv_44, hv_8, hdy]; exact dirC_mir v_1 (fun j hj => okFeats_at hok hj) d (by omega) v_1.length (Nat.le_refl _))), trivial⟩ ?_
    refine aw_false rfl ?_
    refine aw_skip ?_
    refine ae_block 1 ?_
    refine ae_then ?_
    refine aw_r [] [12, 32, 34] [] [slI true v_6, slI true v_25, I (d + 1)] [] [inR .i64 (d + 1)] hB ⟨(inR_i64 (by omega) (by omega)), trivial⟩ ?_
    exact ae_again _ (by omega) ⟨(d + 1), rfl, (by omega), rfl⟩
   refine aw_r [(1, .dec false)] [12, 32, 34, 216] [] [slI true v_6, slI true v_25, I d, Bv false] [] [¬ (d < 8)] hB ⟨h12, trivial⟩ ?_
   refine ae_then ?_
   refine aw_false rfl ?_
   refine aw_exit ?_
   refine ae_exit_then ?_
   refine ae_exit_then ?_
   refine ae_exit_same ?_
   refine ae_then ?_
   refine aR [] [2] [] [Bv true] [] [] hB trivial ?_
   refine aw_ret ?_
   refine ae_ret hB (Bv true) (by kernel_rfl) (.inl rfl) rfl (fun _ => trivial)
  refine aw_r [(1, .dec true)] [3, 4, 8, 12, 172] [] [slFeat true v_1, slFeat true v_2, slFeat true v_4, slI true v_6, Bv true] [] [c_2 ≠ 0] hB ⟨h11, trivial⟩ ?_
  refine ae_then ?_
  refine aw_true rfl ?_
  refine aR [] [2] [] [Bv true] [] [] hB trivial ?_
  refine aw_ret ?_
  refine ae_ret_then ?_
  refine ae_ret hB (Bv true) (by kernel_rfl) (.inl rfl) rfl (fun _ => trivial)


/-! ### the row -/

theorem opens_t22 : OpensA Tryz.prog 22 (cLU8 false) (fun xs => ∀ y ∈ xs, inR .u8 y) :=
  opensA_slice (c := cU8) (sz := 1) Tryz.underlying22 (by kernel_rfl) (by decide) (fun x => ⟨rfl, by simp [oneA, cU8]⟩) (opensA_int Tryz.underlying5)

namespace fnFeatTurns
set_option maxRecDepth 100000 in
theorem lifted (os : Os) (started : os.Started) (H : Type) (enc : TypeId × Value → H) :
    ReturnsInHanded {} Tryz.checked os 5 .any (fun w args => (Rows.fnFeatTurnsSpec.pre enc Tryz.prog Tryz.f5 Rows.fnFeatTurnsRow.domain false w args ∧ laidMetH Tryz.prog Rows.fnFeatTurnsRow.laid w) ∧ sizedMet enc Tryz.prog Tryz.f5 (OpenSpec.ofChange Rows.fnFeatTurnsSpec) false w args)
      (Rows.fnFeatTurnsSpec.post enc Tryz.prog Tryz.f5 false true false false) := by
  refine returnsInHanded_of_change_and (C := Tryz.checked) (X := fun w _ => laidMetH Tryz.prog Rows.fnFeatTurnsRow.laid w) (fun _ _ _ hh h => h.of_heap hh) Tryz.own started (by kernel_rfl) Tryz.func5
    (ChangeSpec.witness_shaped (enc := enc) (C := Tryz.checked) (os := os) (X := fun w _ => laidMetH Tryz.prog Rows.fnFeatTurnsRow.laid w) false (World.laidAll Tryz.prog os Rows.fnFeatTurnsRow.laid) #[.slice none 0 0] 8 (World.laidAll_os _ _ _)
      (World.shaped_of_ZipB (by kernel_rfl) (by kernel_rfl)) (by kernel_rfl) (by kernel_rfl) (by kernel_rfl)
      (by rw [MakeChecks.laidMetH_plain _ _ _ (by kernel_rfl)]; exact laidMet_laidAll _ (by kernel_rfl) (by kernel_rfl))) ?_
  intro W base args ds gs before hval0 hW hcnd hsz hL _
  have hW' := hW
  obtain ⟨p, q, hA0, hV, rfl, hfz, hnd⟩ := hW
  have hval : ∀ (j : Nat) t v, Tryz.f5.params[j]? = some t → args[j]? = some v → Value.okWide Tryz.prog W .any base t v := hval0
  have hA : DataW.TrodAll enc Tryz.prog W 0 (fun _ => true) true Tryz.f5.params.toList args.toList ds p := hA0
  rw [Tryz.params5] at hA hval
  obtain ⟨v0, vs0, d0, ds0, p0, q0, hargs, rfl, rfl, h0, r0⟩ := trodAll_cons hA
  obtain ⟨rfl, rfl, rfl⟩ := trodAll_nil r0
  obtain rfl : args = #[v0] := args_eq hargs
  obtain ⟨rfl, rfl⟩ := trodVars_none hV
  obtain ⟨fuel0, hf0⟩ := h0
  obtain ⟨A0, l0, c0, rfl⟩ := okWide_slice Tryz.underlying22 (hval 0 22 v0 rfl rfl)
  obtain ⟨x0, rx0, ok0⟩ := (opens_t22) enc W 0 _ _ _ _ _ hf0
  refine (walk_of0 (fnFeatTurns_con x0 ok0) (fun w hk => WX_below (WX_laid (by rw [MakeChecks.laidMetH_plain _ _ _ (by kernel_rfl)] at hL; first | exact hL | exact hL.tail | exact hL.tail.tail | exact hL.tail.tail.tail | exact hL.tail.tail.tail.tail | exact hL.tail.tail.tail.tail.tail | exact hL.tail.tail.tail.tail.tail.tail | exact hL.tail.tail.tail.tail.tail.tail.tail | exact hL.tail.tail.tail.tail.tail.tail.tail.tail) (by rw [MakeChecks.laidMetH_plain _ _ _ (by kernel_rfl)] at hL; first | exact hL | exact hL.tail | exact hL.tail.tail | exact hL.tail.tail.tail | exact hL.tail.tail.tail.tail | exact hL.tail.tail.tail.tail.tail | exact hL.tail.tail.tail.tail.tail.tail | exact hL.tail.tail.tail.tail.tail.tail.tail | exact hL.tail.tail.tail.tail.tail.tail.tail.tail) (by rw [MakeChecks.laidMetH_plain _ _ _ (by kernel_rfl)] at hL; first | exact hL | exact hL.tail | exact hL.tail.tail | exact hL.tail.tail.tail | exact hL.tail.tail.tail.tail | exact hL.tail.tail.tail.tail.tail | exact hL.tail.tail.tail.tail.tail.tail | exact hL.tail.tail.tail.tail.tail.tail.tail | exact hL.tail.tail.tail.tail.tail.tail.tail.tail)) w ⟨hk.os, hk.tape, hk.output, hk.size, fun k h1 => hk.block k h1 id⟩) (RelTL.cons (relTL_one rx0) RelTL.nil)).mono fun e W1 ⟨he, hb⟩ => ?_
  subst he
  exact ⟨_, rfl, law_post Tryz.laidOut rfl Tryz.underlying4 (of_decide_eq_true (by kernel_rfl)) rfl hW' hb rfl⟩

theorem over : Rows.fnFeatTurnsRow.holds Tryz.pinned (OpenSpec.ofChange Rows.fnFeatTurnsSpec) :=
  OpenClaim.holds_of_wide 5 Tryz.f5 rfl rfl rfl rfl rfl rfl rfl ⟨rfl, rfl, rfl, rfl, rfl⟩ rfl rfl rfl rfl rfl (by kernel_rfl) Tryz.func5 (by kernel_rfl)
    (of_decide_eq_true (by kernel_rfl)) (by unfold Func.isWrapper; first | (rw [if_pos (by decide +kernel)]; kernel_rfl) | (rw [if_neg (by decide +kernel)]; exact ⟨rfl, rfl⟩))
    (fun os started H enc _ => lifted os started H enc)

theorem proved : Rows.FnFeatTurnsCardSaid :=
  Claim7.holds_tied_plain_at .later [] [.data, .data, .data, .data, .sentinel, .sentinel, .pinned] true (true, "00e2698d828c446cf3aa74638b276850451084458f15901ce8c3ecdcb349fc25") true over (fun _ h => by cases h) (by kernel_rfl) (fun _ h => by cases h) fnFeatTurns_row_tie rfl ⟨rfl, rfl⟩ (by kernel_rfl) rfl
    (fun f fn hf hfn => by
      obtain rfl : f = 5 := Option.some.inj ((show Tryz.prog.funcNamed "loop.example/g00918/laws.FnFeatTurns" = some 5 by kernel_rfl).symm.trans hf) |>.symm
      obtain rfl : fn = Tryz.f5 := (Option.some.inj (Tryz.func5.symm.trans hfn)).symm
      exact ⟨by kernel_rfl, fun j t ht => by
        rw [Tryz.params5] at ht
        have hm : t ∈ [22] := by simpa using Array.mem_of_getElem? ht
        have hall : ([22].all fun u => !Tryz.prog.wantsStandIn u) = true := by kernel_rfl
        exact (show Tryz.prog.wantsStandIn t = false by simpa using List.all_eq_true.1 hall t hm)⟩)
    (by kernel_rfl)
#print axioms proved
end fnFeatTurns
end Go.Proofs.YthlghckgnanlpaaGreatDoor.Ax
