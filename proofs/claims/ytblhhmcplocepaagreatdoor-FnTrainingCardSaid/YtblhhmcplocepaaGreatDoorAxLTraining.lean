/- The statement FnTraining: contracts of what it reaches, and its proof. No conditions. -/
import Derived.Test.YtblhhmcplocepaaGreatDoorAxLTraining4
import Derived.LaidMore
import Derived.Lay
import Derived.Lib.IndexBytes
import Derived.Lib.ItoaNum
import Derived.Lib.ParseIntBCases
import Derived.Lib.ParseIntBTie
import Derived.Lib.SplitLaws
import Derived.OpenShut
import Derived.SevenTiedAt
import Derived.Stop.Joined
import Derived.Test.YtblhhmcplocepaaGreatDoorAxBd
import Derived.Test.YtblhhmcplocepaaGreatDoorAxQ
import Derived.Test.YtblhhmcplocepaaGreatDoorAxR
import Derived.Test.YtblhhmcplocepaaGreatDoorAxS
import Derived.Test.YtblhhmcplocepaaGreatDoorAxY
import Derived.Test.YtblhhmcplocepaaGreatDoorDelShelf
namespace Go.Proofs.YtblhhmcplocepaaGreatDoor.Ax
open Go.RowKit Go.ChangeShapes Go.WideShapes
set_option linter.unusedVariables false
set_option linter.unusedSimpArgs false
theorem Zph (code : List Int) (ok_code : ∀ y ∈ code, inR .u8 y) : Con Tryz.prog 3 [Zgk false code] true (Bv true) := by
  refine Zdc (fn := Tryz.f3) (nt := 182) Tryz.func3 rfl rfl rfl rfl (by simp [Zah, Zak, Zdj]) fun B hB => ?_
  refine Zcg (x := Zgk false code) 0 rfl (fun len_code => ?_)
  simp [Zdt, Zgj, cU8, fU8, Zgk] at len_code
  refine aR [] [0] [] [Zgk false code] [] [] hB trivial ?_
  refine Zal ?_
  refine Zal ?_
  rcases Bool.eq_false_or_eq_true (decide (4096 < (code.length : Int))) with h1 | h1
  ·refine Zby [(1, .call [(true, .any)] true (Bv true))] [0, 26] [] [Zgk false code, Bv true] [] [Con Tryz.prog 4 [Zgk false code] true (Bv true) ∧ True] hB ⟨⟨(Zaq h1 (Zxh code)), trivial⟩, trivial⟩ ?_
   refine Zac ?_
   refine Zbc rfl ?_
   refine aR [] [2] [] [Bv true] [] [] hB trivial ?_
   refine Zax ?_
   refine Zai ?_
   refine Zba hB (Bv true) (by kernel_rfl) (.inl rfl) rfl (fun _ => trivial)
  have hc : (∀ j, j < code.length → 0 ≤ at_ code j ∧ at_ code j ≤ 255) ∧ code.length ≤ 4611686018427387904 := ⟨fun j hj => ok_code _ (Zct hj), by first | omega | (simp at h1; omega)⟩
  refine Zby [(1, .call [(true, .any)] true (Bv false))] [0, 26] [] [Zgk false code, Bv false] [] [Con Tryz.prog 4 [Zgk false code] true (Bv false) ∧ True] hB ⟨⟨(Zaq h1 (Zxh code)), trivial⟩, trivial⟩ ?_
  refine Zac ?_
  refine Zay rfl ?_
  refine Zbf ?_
  refine Zac ?_
  refine Zal ?_
  obtain ⟨p_1, s_1, hx1_0, hx1_1, hc1⟩ := Znk code (by assumption)
  have hdp := hx1_0
  have hsz := hx1_1
  have hlz : ∀ y ∈ p_1.Labels, y.size ≤ 9223372036854775807 := fun y hy => by have := hdp.2.1 y hy; omega
  have hor := pcTx_or p_1
  refine Zby [(1, .call [(true, .any)] true (.tup [Zan p_1, Zho s_1])), (5, .new 3), (6, .new 4)] [0, 3, 4] [3, 4] [Zgk false code, .ref 3 0, .ref 4 0] [some (Zad p_1), some (Zdk s_1)] [Con Tryz.prog 5 [Zgk false code] true (.tup [Zan p_1, Zho s_1]) ∧ True] hB ⟨⟨hc1, trivial⟩, trivial⟩ ?_
  refine Zac ?_
  refine Zal ?_
  obtain ⟨v_2, ch_2, c_2, hx2_0, hc2⟩ := Znl p_1 s_1 hlz (by omega)
  have hxr : v_2 = (toR p_1 s_1).1 := (hx2_0).1.trans (tep1 p_1 s_1).1
  have hcr : ch_2 = (toR p_1 s_1).2.1 := (hx2_0).2.1.trans (tep1 p_1 s_1).2.1
  have hbr : c_2 = (toR p_1 s_1).2.2 := (hx2_0).2.2.trans (tep1 p_1 s_1).2.2
  refine Zby [(2, .call [(false, Zae p_1), (false, Zcy s_1)] true (.tup [Zan v_2, Bv ch_2, I c_2])), (7, .new 5)] [0, 3, 4, 5, 6, 7] [3, 4, 5] [Zgk false code, .ref 3 0, .ref 4 0, .ref 5 0, Bv ch_2, I c_2] [some (Zad p_1), some (Zdk s_1), some (Zad v_2)] [Con Tryz.prog 6 [Zae p_1, Zcy s_1] true (.tup [Zan v_2, Bv ch_2, I c_2]) ∧ (((false = true → true = true) ∧ 1 = 1 ∧ p_1.Labels.length = p_1.Labels.length ∧ ∀ i_, i_ < p_1.Labels.length → (fS p_1.Labels) i_ = (fS p_1.Labels) i_ ∨ (AV.idsL ((fS p_1.Labels) i_) = [] ∧ leL (fun _ => none) false ((fS p_1.Labels) i_) ((fS p_1.Labels) i_))) ∧ ((false = true → true = true) ∧ 1 = 1 ∧ p_1.Weights.length = p_1.Weights.length ∧ ∀ i_, i_ < p_1.Weights.length → (fLI true p_1.Weights) i_ = (fLI false p_1.Weights) i_ ∨ (AV.idsL ((fLI false p_1.Weights) i_) = [] ∧ leL (fun _ => none) false ((fLI true p_1.Weights) i_) ((fLI false p_1.Weights) i_))) ∧ ([] : List AV) = []) ∧ ((Zyz (Sv s_1.Label) = Zyz (Sv s_1.Label)) ∧ ((false = true → true = true) ∧ 3 = 3 ∧ s_1.Feats.length = s_1.Feats.length ∧ ∀ i_, i_ < s_1.Feats.length → (Zdr s_1.Feats) i_ = (Zdr s_1.Feats) i_ ∨ (AV.idsL ((Zdr s_1.Feats) i_) = [] ∧ leL (fun _ => none) false ((Zdr s_1.Feats) i_) ((Zdr s_1.Feats) i_))) ∧ ([] : List AV) = []) ∧ True] hB ⟨⟨hc2, ⟨⟨(fun h => by cases h), rfl, rfl, fun i _ => .inl rfl⟩, ⟨⟨(fun h => by cases h), rfl, rfl, fun i _ => .inr ⟨Zev _ _, Zjp _ _ _⟩⟩, rfl⟩⟩, ⟨rfl, ⟨⟨(fun h => by cases h), rfl, rfl, fun i _ => .inl rfl⟩, rfl⟩⟩, trivial⟩, trivial⟩ ?_
  refine Zac ?_
  refine Zal ?_
  obtain ⟨v_3, ch_3, c_3, hx3_0, hc3⟩ := Znm p_1 s_1 hlz (by omega)
  have hxm : v_3 = (toR p_1 s_1).1 := congrArg (fun q => q.1) hx3_0
  have hcm : ch_3 = (toR p_1 s_1).2.1 := congrArg (fun q => q.2.1) hx3_0
  have hbm : c_3 = (toR p_1 s_1).2.2 := congrArg (fun q => q.2.2) hx3_0
  refine Zby [(2, .call [(false, Zae p_1), (false, Zcy s_1)] true (.tup [Zan v_3, Bv ch_3, I c_3])), (7, .new 8)] [0, 3, 4, 5, 6, 7, 8, 9, 10] [3, 4, 5, 8] [Zgk false code, .ref 3 0, .ref 4 0, .ref 5 0, Bv ch_2, I c_2, .ref 8 0, Bv ch_3, I c_3] [some (Zad p_1), some (Zdk s_1), some (Zad v_2), some (Zad v_3)] [Con Tryz.prog 7 [Zae p_1, Zcy s_1] true (.tup [Zan v_3, Bv ch_3, I c_3]) ∧ (((false = true → true = true) ∧ 1 = 1 ∧ p_1.Labels.length = p_1.Labels.length ∧ ∀ i_, i_ < p_1.Labels.length → (fS p_1.Labels) i_ = (fS p_1.Labels) i_ ∨ (AV.idsL ((fS p_1.Labels) i_) = [] ∧ leL (fun _ => none) false ((fS p_1.Labels) i_) ((fS p_1.Labels) i_))) ∧ ((false = true → true = true) ∧ 1 = 1 ∧ p_1.Weights.length = p_1.Weights.length ∧ ∀ i_, i_ < p_1.Weights.length → (fLI true p_1.Weights) i_ = (fLI false p_1.Weights) i_ ∨ (AV.idsL ((fLI false p_1.Weights) i_) = [] ∧ leL (fun _ => none) false ((fLI true p_1.Weights) i_) ((fLI false p_1.Weights) i_))) ∧ ([] : List AV) = []) ∧ ((Zyz (Sv s_1.Label) = Zyz (Sv s_1.Label)) ∧ ((false = true → true = true) ∧ 3 = 3 ∧ s_1.Feats.length = s_1.Feats.length ∧ ∀ i_, i_ < s_1.Feats.length → (Zdr s_1.Feats) i_ = (Zdr s_1.Feats) i_ ∨ (AV.idsL ((Zdr s_1.Feats) i_) = [] ∧ leL (fun _ => none) false ((Zdr s_1.Feats) i_) ((Zdr s_1.Feats) i_))) ∧ ([] : List AV) = []) ∧ True] hB ⟨⟨hc3, ⟨⟨(fun h => by cases h), rfl, rfl, fun i _ => .inl rfl⟩, ⟨⟨(fun h => by cases h), rfl, rfl, fun i _ => .inr ⟨Zev _ _, Zjp _ _ _⟩⟩, rfl⟩⟩, ⟨rfl, ⟨⟨(fun h => by cases h), rfl, rfl, fun i _ => .inl rfl⟩, rfl⟩⟩, trivial⟩, trivial⟩ ?_
  refine Zac ?_
  refine aR [(1, .call [(false, Zae p_1)] true (Sv (Zeq p_1)))] [0, 3, 4, 5, 6, 7, 8, 9, 10, 11] [3, 4, 5, 8] [Zgk false code, .ref 3 0, .ref 4 0, .ref 5 0, Bv ch_2, I c_2, .ref 8 0, Bv ch_3, I c_3, Sv (Zeq p_1)] [some (Zad p_1), some (Zdk s_1), some (Zad v_2), some (Zad v_3)] [Con Tryz.prog 8 [Zae p_1] true (Sv (Zeq p_1)) ∧ (((false = true → true = true) ∧ 1 = 1 ∧ p_1.Labels.length = p_1.Labels.length ∧ ∀ i_, i_ < p_1.Labels.length → (fS p_1.Labels) i_ = (fS p_1.Labels) i_ ∨ (AV.idsL ((fS p_1.Labels) i_) = [] ∧ leL (fun _ => none) false ((fS p_1.Labels) i_) ((fS p_1.Labels) i_))) ∧ ((false = true → true = true) ∧ 1 = 1 ∧ p_1.Weights.length = p_1.Weights.length ∧ ∀ i_, i_ < p_1.Weights.length → (fLI true p_1.Weights) i_ = (fLI false p_1.Weights) i_ ∨ (AV.idsL ((fLI false p_1.Weights) i_) = [] ∧ leL (fun _ => none) false ((fLI true p_1.Weights) i_) ((fLI false p_1.Weights) i_))) ∧ ([] : List AV) = []) ∧ True] hB ⟨⟨(Zes p_1 hlz), ⟨⟨(fun h => by cases h), rfl, rfl, fun i _ => .inl rfl⟩, ⟨⟨(fun h => by cases h), rfl, rfl, fun i _ => .inr ⟨Zev _ _, Zjp _ _ _⟩⟩, rfl⟩⟩, trivial⟩, trivial⟩ ?_
  refine Zal ?_
  obtain ⟨v_4, c_4, hx4_0, hx4_1, hc4⟩ := Zfz (Zeq p_1) (by first | omega | exact Nat.le_trans Zfm (by decide))
  have hrv : v_4 = (rpI (Zeq p_1)).1 := hx4_0
  have hrc : c_4 = (rpI (Zeq p_1)).2 := hx4_1
  refine Zby [(1, .call [(true, .any)] true (.tup [Zan v_4, Bv c_4])), (5, .new 12)] [0, 3, 4, 5, 6, 7, 8, 9, 10, 11, 12, 13] [3, 4, 5, 8, 12] [Zgk false code, .ref 3 0, .ref 4 0, .ref 5 0, Bv ch_2, I c_2, .ref 8 0, Bv ch_3, I c_3, Sv (Zeq p_1), .ref 12 0, Bv c_4] [some (Zad p_1), some (Zdk s_1), some (Zad v_2), some (Zad v_3), some (Zad v_4)] [Con Tryz.prog 9 [Sv (Zeq p_1)] true (.tup [Zan v_4, Bv c_4]) ∧ True] hB ⟨⟨hc4, trivial⟩, trivial⟩ ?_
  refine Zac ?_
  refine Zal ?_
  obtain ⟨v_5, hx5_0, hc5⟩ := Zip code (by assumption)
  have huz := hx5_0
  refine Zby [(1, .call [(true, .any)] true (Sv v_5))] [3, 4, 5, 6, 7, 8, 9, 10, 11, 12, 13, 14] [3, 4, 5, 8, 12] [.ref 3 0, .ref 4 0, .ref 5 0, Bv ch_2, I c_2, .ref 8 0, Bv ch_3, I c_3, Sv (Zeq p_1), .ref 12 0, Bv c_4, Sv v_5] [some (Zad p_1), some (Zdk s_1), some (Zad v_2), some (Zad v_3), some (Zad v_4)] [Con Tryz.prog 10 [Zgk false code] true (Sv v_5) ∧ True] hB ⟨⟨hc5, trivial⟩, trivial⟩ ?_
  refine Zac ?_
  refine Zal ?_
  obtain ⟨v_6, c_6, hx6_0, hx6_1, hc6⟩ := Zfz v_5 (by first | omega | exact Nat.le_trans Zfm (by decide))
  have hyv : v_6 = (rpI v_5).1 := hx6_0
  have hyc : c_6 = (rpI v_5).2 := hx6_1
  refine Zby [(1, .call [(true, .any)] true (.tup [Zan v_6, Bv c_6])), (5, .new 15)] [3, 4, 5, 6, 7, 8, 9, 10, 11, 12, 13, 14, 15, 16] [3, 4, 5, 8, 12, 15] [.ref 3 0, .ref 4 0, .ref 5 0, Bv ch_2, I c_2, .ref 8 0, Bv ch_3, I c_3, Sv (Zeq p_1), .ref 12 0, Bv c_4, Sv v_5, .ref 15 0, Bv c_6] [some (Zad p_1), some (Zdk s_1), some (Zad v_2), some (Zad v_3), some (Zad v_4), some (Zad v_6)] [Con Tryz.prog 9 [Sv v_5] true (.tup [Zan v_6, Bv c_6]) ∧ True] hB ⟨⟨hc6, trivial⟩, trivial⟩ ?_
  refine Zac ?_
  refine Zal ?_
  obtain ⟨v_7, c_7, hx7_0, hx7_1, hc7⟩ := Ziq v_5 (by first | omega | exact Nat.le_trans Zfm (by decide))
  have hzv : v_7 = (rpI v_5).1 := by rw [hx7_0, rp_eq]
  have hzc : c_7 = (rpI v_5).2 := by rw [hx7_1, rp_eq]
  refine Zby [(1, .call [(true, .any)] true (.tup [Zan v_7, Bv c_7])), (5, .new 17)] [3, 4, 5, 6, 7, 8, 9, 10, 11, 12, 13, 15, 16, 17, 18] [3, 4, 5, 8, 12, 15, 17] [.ref 3 0, .ref 4 0, .ref 5 0, Bv ch_2, I c_2, .ref 8 0, Bv ch_3, I c_3, Sv (Zeq p_1), .ref 12 0, Bv c_4, .ref 15 0, Bv c_6, .ref 17 0, Bv c_7] [some (Zad p_1), some (Zdk s_1), some (Zad v_2), some (Zad v_3), some (Zad v_4), some (Zad v_6), some (Zad v_7)] [Con Tryz.prog 11 [Sv v_5] true (.tup [Zan v_7, Bv c_7]) ∧ True] hB ⟨⟨hc7, trivial⟩, trivial⟩ ?_
  refine Zac ?_
  refine Yai (fun gσ => (True) ∧ gσ = mkS [(3, .ref 3 0), (4, .ref 4 0), (5, .ref 5 0), (6, Bv ch_2), (7, I c_2)] [(3, Zad p_1), (4, Zdk s_1), (5, Zad v_2)]) ?_ (fun gσ hI => ?_)
  ·refine Zal ?_
   by_cases h2 : (Zeq p_1) = (⟨#[]⟩ : ByteArray)
   ·have hno : Zbb p_1 = false := by rcases hor with q | q; (exact absurd h2 q.2); exact q.1
    have hnf_ : rpI (Zeq p_1) = (⟨[], []⟩, false) := by rw [h2]; first | done | exact rp_no0
    obtain rfl : c_4 = false := (by rw [hrc, hnf_]; first | done | decide)
    refine Zby [(2, .dec false), (6, .dec false), (11, .call [(false, Zae v_2), (false, Zae v_3)] true (Bv true)), (17, .call [(false, Zae p_1)] true (Sv (Zeq p_1))), (18, .dec false), (23, .dec false), (38, .dec false), (43, .call [(false, Zae v_6), (false, Zae v_7)] true (Bv true)), (48, .call [(false, Zae p_1)] true (Bv false)), (50, .call [(false, Zae p_1)] true (Bv false))] [3, 4, 5, 6, 7, 117] [3, 4, 5] [.ref 3 0, .ref 4 0, .ref 5 0, Bv ch_2, I c_2, Bv false] [some (Zad p_1), some (Zdk s_1), some (Zad v_2)] [¬ (c_2 ≠ c_3), ¬ (ch_2 ≠ ch_3), Con Tryz.prog 12 [Zae v_2, Zae v_3] true (Bv true) ∧ (((false = true → true = true) ∧ 1 = 1 ∧ v_2.Labels.length = v_2.Labels.length ∧ ∀ i_, i_ < v_2.Labels.length → (fS v_2.Labels) i_ = (fS v_2.Labels) i_ ∨ (AV.idsL ((fS v_2.Labels) i_) = [] ∧ leL (fun _ => none) false ((fS v_2.Labels) i_) ((fS v_2.Labels) i_))) ∧ ((false = true → true = true) ∧ 1 = 1 ∧ v_2.Weights.length = v_2.Weights.length ∧ ∀ i_, i_ < v_2.Weights.length → (fLI true v_2.Weights) i_ = (fLI false v_2.Weights) i_ ∨ (AV.idsL ((fLI false v_2.Weights) i_) = [] ∧ leL (fun _ => none) false ((fLI true v_2.Weights) i_) ((fLI false v_2.Weights) i_))) ∧ ([] : List AV) = []) ∧ (((false = true → true = true) ∧ 1 = 1 ∧ v_3.Labels.length = v_3.Labels.length ∧ ∀ i_, i_ < v_3.Labels.length → (fS v_3.Labels) i_ = (fS v_3.Labels) i_ ∨ (AV.idsL ((fS v_3.Labels) i_) = [] ∧ leL (fun _ => none) false ((fS v_3.Labels) i_) ((fS v_3.Labels) i_))) ∧ ((false = true → true = true) ∧ 1 = 1 ∧ v_3.Weights.length = v_3.Weights.length ∧ ∀ i_, i_ < v_3.Weights.length → (fLI true v_3.Weights) i_ = (fLI false v_3.Weights) i_ ∨ (AV.idsL ((fLI false v_3.Weights) i_) = [] ∧ leL (fun _ => none) false ((fLI true v_3.Weights) i_) ((fLI false v_3.Weights) i_))) ∧ ([] : List AV) = []) ∧ True, Con Tryz.prog 13 [Zae p_1] true (Sv (Zeq p_1)) ∧ (((false = true → true = true) ∧ 1 = 1 ∧ p_1.Labels.length = p_1.Labels.length ∧ ∀ i_, i_ < p_1.Labels.length → (fS p_1.Labels) i_ = (fS p_1.Labels) i_ ∨ (AV.idsL ((fS p_1.Labels) i_) = [] ∧ leL (fun _ => none) false ((fS p_1.Labels) i_) ((fS p_1.Labels) i_))) ∧ ((false = true → true = true) ∧ 1 = 1 ∧ p_1.Weights.length = p_1.Weights.length ∧ ∀ i_, i_ < p_1.Weights.length → (fLI true p_1.Weights) i_ = (fLI false p_1.Weights) i_ ∨ (AV.idsL ((fLI false p_1.Weights) i_) = [] ∧ leL (fun _ => none) false ((fLI true p_1.Weights) i_) ((fLI false p_1.Weights) i_))) ∧ ([] : List AV) = []) ∧ True, ¬ ((Zeq p_1) ≠ (Zeq p_1)), ¬ ((Zeq p_1) ≠ (⟨#[]⟩ : ByteArray)), ¬ (c_6 ≠ c_7), Con Tryz.prog 12 [Zae v_6, Zae v_7] true (Bv true) ∧ (((false = true → true = true) ∧ 1 = 1 ∧ v_6.Labels.length = v_6.Labels.length ∧ ∀ i_, i_ < v_6.Labels.length → (fS v_6.Labels) i_ = (fS v_6.Labels) i_ ∨ (AV.idsL ((fS v_6.Labels) i_) = [] ∧ leL (fun _ => none) false ((fS v_6.Labels) i_) ((fS v_6.Labels) i_))) ∧ ((false = true → true = true) ∧ 1 = 1 ∧ v_6.Weights.length = v_6.Weights.length ∧ ∀ i_, i_ < v_6.Weights.length → (fLI true v_6.Weights) i_ = (fLI false v_6.Weights) i_ ∨ (AV.idsL ((fLI false v_6.Weights) i_) = [] ∧ leL (fun _ => none) false ((fLI true v_6.Weights) i_) ((fLI false v_6.Weights) i_))) ∧ ([] : List AV) = []) ∧ (((false = true → true = true) ∧ 1 = 1 ∧ v_7.Labels.length = v_7.Labels.length ∧ ∀ i_, i_ < v_7.Labels.length → (fS v_7.Labels) i_ = (fS v_7.Labels) i_ ∨ (AV.idsL ((fS v_7.Labels) i_) = [] ∧ leL (fun _ => none) false ((fS v_7.Labels) i_) ((fS v_7.Labels) i_))) ∧ ((false = true → true = true) ∧ 1 = 1 ∧ v_7.Weights.length = v_7.Weights.length ∧ ∀ i_, i_ < v_7.Weights.length → (fLI true v_7.Weights) i_ = (fLI false v_7.Weights) i_ ∨ (AV.idsL ((fLI false v_7.Weights) i_) = [] ∧ leL (fun _ => none) false ((fLI true v_7.Weights) i_) ((fLI false v_7.Weights) i_))) ∧ ([] : List AV) = []) ∧ True, Con Tryz.prog 14 [Zae p_1] true (Bv false) ∧ (((false = true → true = true) ∧ 1 = 1 ∧ p_1.Labels.length = p_1.Labels.length ∧ ∀ i_, i_ < p_1.Labels.length → (fS p_1.Labels) i_ = (fS p_1.Labels) i_ ∨ (AV.idsL ((fS p_1.Labels) i_) = [] ∧ leL (fun _ => none) false ((fS p_1.Labels) i_) ((fS p_1.Labels) i_))) ∧ ((false = true → true = true) ∧ 1 = 1 ∧ p_1.Weights.length = p_1.Weights.length ∧ ∀ i_, i_ < p_1.Weights.length → (fLI true p_1.Weights) i_ = (fLI false p_1.Weights) i_ ∨ (AV.idsL ((fLI false p_1.Weights) i_) = [] ∧ leL (fun _ => none) false ((fLI true p_1.Weights) i_) ((fLI false p_1.Weights) i_))) ∧ ([] : List AV) = []) ∧ True, Con Tryz.prog 15 [Zae p_1] true (Bv false) ∧ (((false = true → true = true) ∧ 1 = 1 ∧ p_1.Labels.length = p_1.Labels.length ∧ ∀ i_, i_ < p_1.Labels.length → (fS p_1.Labels) i_ = (fS p_1.Labels) i_ ∨ (AV.idsL ((fS p_1.Labels) i_) = [] ∧ leL (fun _ => none) false ((fS p_1.Labels) i_) ((fS p_1.Labels) i_))) ∧ ((false = true → true = true) ∧ 1 = 1 ∧ p_1.Weights.length = p_1.Weights.length ∧ ∀ i_, i_ < p_1.Weights.length → (fLI true p_1.Weights) i_ = (fLI false p_1.Weights) i_ ∨ (AV.idsL ((fLI false p_1.Weights) i_) = [] ∧ leL (fun _ => none) false ((fLI true p_1.Weights) i_) ((fLI false p_1.Weights) i_))) ∧ ([] : List AV) = []) ∧ True] hB ⟨(fun hq => hq (hbr.trans hbm.symm)), (fun hq => hq (hcr.trans hcm.symm)), ⟨(Zaq (Zhx (hxr.trans hxm.symm)) (Zcv v_2 v_3)), ⟨⟨(fun h => by cases h), rfl, rfl, fun i _ => .inl rfl⟩, ⟨⟨(fun h => by cases h), rfl, rfl, fun i _ => .inr ⟨Zev _ _, Zjp _ _ _⟩⟩, rfl⟩⟩, ⟨⟨(fun h => by cases h), rfl, rfl, fun i _ => .inl rfl⟩, ⟨⟨(fun h => by cases h), rfl, rfl, fun i _ => .inr ⟨Zev _ _, Zjp _ _ _⟩⟩, rfl⟩⟩, trivial⟩, ⟨(Zet p_1 hlz), ⟨⟨(fun h => by cases h), rfl, rfl, fun i _ => .inl rfl⟩, ⟨⟨(fun h => by cases h), rfl, rfl, fun i _ => .inr ⟨Zev _ _, Zjp _ _ _⟩⟩, rfl⟩⟩, trivial⟩, (fun hq => hq rfl), (fun hq => hq h2), (fun hq => hq (hyc.trans hzc.symm)), ⟨(Zaq (Zhx (hyv.trans hzv.symm)) (Zcv v_6 v_7)), ⟨⟨(fun h => by cases h), rfl, rfl, fun i _ => .inl rfl⟩, ⟨⟨(fun h => by cases h), rfl, rfl, fun i _ => .inr ⟨Zev _ _, Zjp _ _ _⟩⟩, rfl⟩⟩, ⟨⟨(fun h => by cases h), rfl, rfl, fun i _ => .inl rfl⟩, ⟨⟨(fun h => by cases h), rfl, rfl, fun i _ => .inr ⟨Zev _ _, Zjp _ _ _⟩⟩, rfl⟩⟩, trivial⟩, ⟨(Zaq (by rw [hno]; first | done | decide) (Zbl p_1 hlz)), ⟨⟨(fun h => by cases h), rfl, rfl, fun i _ => .inl rfl⟩, ⟨⟨(fun h => by cases h), rfl, rfl, fun i _ => .inr ⟨Zev _ _, Zjp _ _ _⟩⟩, rfl⟩⟩, trivial⟩, ⟨(Zaq (by rw [hno]; first | done | decide) (Zfs p_1 hlz)), ⟨⟨(fun h => by cases h), rfl, rfl, fun i _ => .inl rfl⟩, ⟨⟨(fun h => by cases h), rfl, rfl, fun i _ => .inr ⟨Zev _ _, Zjp _ _ _⟩⟩, rfl⟩⟩, trivial⟩, trivial⟩ ?_
    refine Zac ?_
    refine Zay rfl ?_
    refine Zbf ?_
    refine Zfd hB [] (T := [(3, .ref 3 0), (4, .ref 4 0), (5, .ref 5 0), (6, Bv ch_2), (7, I c_2)]) (O := [(3, Zad p_1), (4, Zdk s_1), (5, Zad v_2)]) rfl (⟨.inl rfl, .inl rfl, .inl rfl, .inl rfl, .inl rfl, trivial⟩) (⟨.inl rfl, .inl rfl, .inl rfl, trivial⟩) (Zsw ⟨(by trivial), rfl⟩)
   have hok : Zbb p_1 = true := by rcases hor with q | q; (exact q.1); exact absurd q.2 h2
   have hrt := rp_tx hok
   rcases Bool.eq_false_or_eq_true c_4 with h3 | h3
   ·subst h3
    refine Zby [(2, .dec false), (6, .dec false), (11, .call [(false, Zae v_2), (false, Zae v_3)] true (Bv true)), (17, .call [(false, Zae p_1)] true (Sv (Zeq p_1))), (18, .dec false), (23, .dec true), (31, .call [(false, Zae v_4), (false, Zae p_1)] true (Bv true)), (38, .dec false), (43, .call [(false, Zae v_6), (false, Zae v_7)] true (Bv true)), (48, .call [(false, Zae p_1)] true (Bv true)), (50, .call [(false, Zae p_1)] true (Bv true))] [3, 4, 5, 6, 7, 117] [3, 4, 5] [.ref 3 0, .ref 4 0, .ref 5 0, Bv ch_2, I c_2, Bv false] [some (Zad p_1), some (Zdk s_1), some (Zad v_2)] [¬ (c_2 ≠ c_3), ¬ (ch_2 ≠ ch_3), Con Tryz.prog 12 [Zae v_2, Zae v_3] true (Bv true) ∧ (((false = true → true = true) ∧ 1 = 1 ∧ v_2.Labels.length = v_2.Labels.length ∧ ∀ i_, i_ < v_2.Labels.length → (fS v_2.Labels) i_ = (fS v_2.Labels) i_ ∨ (AV.idsL ((fS v_2.Labels) i_) = [] ∧ leL (fun _ => none) false ((fS v_2.Labels) i_) ((fS v_2.Labels) i_))) ∧ ((false = true → true = true) ∧ 1 = 1 ∧ v_2.Weights.length = v_2.Weights.length ∧ ∀ i_, i_ < v_2.Weights.length → (fLI true v_2.Weights) i_ = (fLI false v_2.Weights) i_ ∨ (AV.idsL ((fLI false v_2.Weights) i_) = [] ∧ leL (fun _ => none) false ((fLI true v_2.Weights) i_) ((fLI false v_2.Weights) i_))) ∧ ([] : List AV) = []) ∧ (((false = true → true = true) ∧ 1 = 1 ∧ v_3.Labels.length = v_3.Labels.length ∧ ∀ i_, i_ < v_3.Labels.length → (fS v_3.Labels) i_ = (fS v_3.Labels) i_ ∨ (AV.idsL ((fS v_3.Labels) i_) = [] ∧ leL (fun _ => none) false ((fS v_3.Labels) i_) ((fS v_3.Labels) i_))) ∧ ((false = true → true = true) ∧ 1 = 1 ∧ v_3.Weights.length = v_3.Weights.length ∧ ∀ i_, i_ < v_3.Weights.length → (fLI true v_3.Weights) i_ = (fLI false v_3.Weights) i_ ∨ (AV.idsL ((fLI false v_3.Weights) i_) = [] ∧ leL (fun _ => none) false ((fLI true v_3.Weights) i_) ((fLI false v_3.Weights) i_))) ∧ ([] : List AV) = []) ∧ True, Con Tryz.prog 13 [Zae p_1] true (Sv (Zeq p_1)) ∧ (((false = true → true = true) ∧ 1 = 1 ∧ p_1.Labels.length = p_1.Labels.length ∧ ∀ i_, i_ < p_1.Labels.length → (fS p_1.Labels) i_ = (fS p_1.Labels) i_ ∨ (AV.idsL ((fS p_1.Labels) i_) = [] ∧ leL (fun _ => none) false ((fS p_1.Labels) i_) ((fS p_1.Labels) i_))) ∧ ((false = true → true = true) ∧ 1 = 1 ∧ p_1.Weights.length = p_1.Weights.length ∧ ∀ i_, i_ < p_1.Weights.length → (fLI true p_1.Weights) i_ = (fLI false p_1.Weights) i_ ∨ (AV.idsL ((fLI false p_1.Weights) i_) = [] ∧ leL (fun _ => none) false ((fLI true p_1.Weights) i_) ((fLI false p_1.Weights) i_))) ∧ ([] : List AV) = []) ∧ True, ¬ ((Zeq p_1) ≠ (Zeq p_1)), (Zeq p_1) ≠ (⟨#[]⟩ : ByteArray), Con Tryz.prog 12 [Zae v_4, Zae p_1] true (Bv true) ∧ (((false = true → true = true) ∧ 1 = 1 ∧ v_4.Labels.length = v_4.Labels.length ∧ ∀ i_, i_ < v_4.Labels.length → (fS v_4.Labels) i_ = (fS v_4.Labels) i_ ∨ (AV.idsL ((fS v_4.Labels) i_) = [] ∧ leL (fun _ => none) false ((fS v_4.Labels) i_) ((fS v_4.Labels) i_))) ∧ ((false = true → true = true) ∧ 1 = 1 ∧ v_4.Weights.length = v_4.Weights.length ∧ ∀ i_, i_ < v_4.Weights.length → (fLI true v_4.Weights) i_ = (fLI false v_4.Weights) i_ ∨ (AV.idsL ((fLI false v_4.Weights) i_) = [] ∧ leL (fun _ => none) false ((fLI true v_4.Weights) i_) ((fLI false v_4.Weights) i_))) ∧ ([] : List AV) = []) ∧ (((false = true → true = true) ∧ 1 = 1 ∧ p_1.Labels.length = p_1.Labels.length ∧ ∀ i_, i_ < p_1.Labels.length → (fS p_1.Labels) i_ = (fS p_1.Labels) i_ ∨ (AV.idsL ((fS p_1.Labels) i_) = [] ∧ leL (fun _ => none) false ((fS p_1.Labels) i_) ((fS p_1.Labels) i_))) ∧ ((false = true → true = true) ∧ 1 = 1 ∧ p_1.Weights.length = p_1.Weights.length ∧ ∀ i_, i_ < p_1.Weights.length → (fLI true p_1.Weights) i_ = (fLI false p_1.Weights) i_ ∨ (AV.idsL ((fLI false p_1.Weights) i_) = [] ∧ leL (fun _ => none) false ((fLI true p_1.Weights) i_) ((fLI false p_1.Weights) i_))) ∧ ([] : List AV) = []) ∧ True, ¬ (c_6 ≠ c_7), Con Tryz.prog 12 [Zae v_6, Zae v_7] true (Bv true) ∧ (((false = true → true = true) ∧ 1 = 1 ∧ v_6.Labels.length = v_6.Labels.length ∧ ∀ i_, i_ < v_6.Labels.length → (fS v_6.Labels) i_ = (fS v_6.Labels) i_ ∨ (AV.idsL ((fS v_6.Labels) i_) = [] ∧ leL (fun _ => none) false ((fS v_6.Labels) i_) ((fS v_6.Labels) i_))) ∧ ((false = true → true = true) ∧ 1 = 1 ∧ v_6.Weights.length = v_6.Weights.length ∧ ∀ i_, i_ < v_6.Weights.length → (fLI true v_6.Weights) i_ = (fLI false v_6.Weights) i_ ∨ (AV.idsL ((fLI false v_6.Weights) i_) = [] ∧ leL (fun _ => none) false ((fLI true v_6.Weights) i_) ((fLI false v_6.Weights) i_))) ∧ ([] : List AV) = []) ∧ (((false = true → true = true) ∧ 1 = 1 ∧ v_7.Labels.length = v_7.Labels.length ∧ ∀ i_, i_ < v_7.Labels.length → (fS v_7.Labels) i_ = (fS v_7.Labels) i_ ∨ (AV.idsL ((fS v_7.Labels) i_) = [] ∧ leL (fun _ => none) false ((fS v_7.Labels) i_) ((fS v_7.Labels) i_))) ∧ ((false = true → true = true) ∧ 1 = 1 ∧ v_7.Weights.length = v_7.Weights.length ∧ ∀ i_, i_ < v_7.Weights.length → (fLI true v_7.Weights) i_ = (fLI false v_7.Weights) i_ ∨ (AV.idsL ((fLI false v_7.Weights) i_) = [] ∧ leL (fun _ => none) false ((fLI true v_7.Weights) i_) ((fLI false v_7.Weights) i_))) ∧ ([] : List AV) = []) ∧ True, Con Tryz.prog 14 [Zae p_1] true (Bv true) ∧ (((false = true → true = true) ∧ 1 = 1 ∧ p_1.Labels.length = p_1.Labels.length ∧ ∀ i_, i_ < p_1.Labels.length → (fS p_1.Labels) i_ = (fS p_1.Labels) i_ ∨ (AV.idsL ((fS p_1.Labels) i_) = [] ∧ leL (fun _ => none) false ((fS p_1.Labels) i_) ((fS p_1.Labels) i_))) ∧ ((false = true → true = true) ∧ 1 = 1 ∧ p_1.Weights.length = p_1.Weights.length ∧ ∀ i_, i_ < p_1.Weights.length → (fLI true p_1.Weights) i_ = (fLI false p_1.Weights) i_ ∨ (AV.idsL ((fLI false p_1.Weights) i_) = [] ∧ leL (fun _ => none) false ((fLI true p_1.Weights) i_) ((fLI false p_1.Weights) i_))) ∧ ([] : List AV) = []) ∧ True, Con Tryz.prog 15 [Zae p_1] true (Bv true) ∧ (((false = true → true = true) ∧ 1 = 1 ∧ p_1.Labels.length = p_1.Labels.length ∧ ∀ i_, i_ < p_1.Labels.length → (fS p_1.Labels) i_ = (fS p_1.Labels) i_ ∨ (AV.idsL ((fS p_1.Labels) i_) = [] ∧ leL (fun _ => none) false ((fS p_1.Labels) i_) ((fS p_1.Labels) i_))) ∧ ((false = true → true = true) ∧ 1 = 1 ∧ p_1.Weights.length = p_1.Weights.length ∧ ∀ i_, i_ < p_1.Weights.length → (fLI true p_1.Weights) i_ = (fLI false p_1.Weights) i_ ∨ (AV.idsL ((fLI false p_1.Weights) i_) = [] ∧ leL (fun _ => none) false ((fLI true p_1.Weights) i_) ((fLI false p_1.Weights) i_))) ∧ ([] : List AV) = []) ∧ True] hB ⟨(fun hq => hq (hbr.trans hbm.symm)), (fun hq => hq (hcr.trans hcm.symm)), ⟨(Zaq (Zhx (hxr.trans hxm.symm)) (Zcv v_2 v_3)), ⟨⟨(fun h => by cases h), rfl, rfl, fun i _ => .inl rfl⟩, ⟨⟨(fun h => by cases h), rfl, rfl, fun i _ => .inr ⟨Zev _ _, Zjp _ _ _⟩⟩, rfl⟩⟩, ⟨⟨(fun h => by cases h), rfl, rfl, fun i _ => .inl rfl⟩, ⟨⟨(fun h => by cases h), rfl, rfl, fun i _ => .inr ⟨Zev _ _, Zjp _ _ _⟩⟩, rfl⟩⟩, trivial⟩, ⟨(Zet p_1 hlz), ⟨⟨(fun h => by cases h), rfl, rfl, fun i _ => .inl rfl⟩, ⟨⟨(fun h => by cases h), rfl, rfl, fun i _ => .inr ⟨Zev _ _, Zjp _ _ _⟩⟩, rfl⟩⟩, trivial⟩, (fun hq => hq rfl), h2, ⟨(Zaq (Zhx (by rw [hrv, hrt])) (Zcv v_4 p_1)), ⟨⟨(fun h => by cases h), rfl, rfl, fun i _ => .inl rfl⟩, ⟨⟨(fun h => by cases h), rfl, rfl, fun i _ => .inr ⟨Zev _ _, Zjp _ _ _⟩⟩, rfl⟩⟩, ⟨⟨(fun h => by cases h), rfl, rfl, fun i _ => .inl rfl⟩, ⟨⟨(fun h => by cases h), rfl, rfl, fun i _ => .inr ⟨Zev _ _, Zjp _ _ _⟩⟩, rfl⟩⟩, trivial⟩, (fun hq => hq (hyc.trans hzc.symm)), ⟨(Zaq (Zhx (hyv.trans hzv.symm)) (Zcv v_6 v_7)), ⟨⟨(fun h => by cases h), rfl, rfl, fun i _ => .inl rfl⟩, ⟨⟨(fun h => by cases h), rfl, rfl, fun i _ => .inr ⟨Zev _ _, Zjp _ _ _⟩⟩, rfl⟩⟩, ⟨⟨(fun h => by cases h), rfl, rfl, fun i _ => .inl rfl⟩, ⟨⟨(fun h => by cases h), rfl, rfl, fun i _ => .inr ⟨Zev _ _, Zjp _ _ _⟩⟩, rfl⟩⟩, trivial⟩, ⟨(Zaq hok (Zbl p_1 hlz)), ⟨⟨(fun h => by cases h), rfl, rfl, fun i _ => .inl rfl⟩, ⟨⟨(fun h => by cases h), rfl, rfl, fun i _ => .inr ⟨Zev _ _, Zjp _ _ _⟩⟩, rfl⟩⟩, trivial⟩, ⟨(Zaq hok (Zfs p_1 hlz)), ⟨⟨(fun h => by cases h), rfl, rfl, fun i _ => .inl rfl⟩, ⟨⟨(fun h => by cases h), rfl, rfl, fun i _ => .inr ⟨Zev _ _, Zjp _ _ _⟩⟩, rfl⟩⟩, trivial⟩, trivial⟩ ?_
    refine Zac ?_
    refine Zay rfl ?_
    refine Zbf ?_
    refine Zfd hB [] (T := [(3, .ref 3 0), (4, .ref 4 0), (5, .ref 5 0), (6, Bv ch_2), (7, I c_2)]) (O := [(3, Zad p_1), (4, Zdk s_1), (5, Zad v_2)]) rfl (⟨.inl rfl, .inl rfl, .inl rfl, .inl rfl, .inl rfl, trivial⟩) (⟨.inl rfl, .inl rfl, .inl rfl, trivial⟩) (Zsw ⟨(by trivial), rfl⟩)
   subst h3
   refine Zby [(2, .dec false), (6, .dec false), (11, .call [(false, Zae v_2), (false, Zae v_3)] true (Bv true)), (17, .call [(false, Zae p_1)] true (Sv (Zeq p_1))), (18, .dec false), (23, .dec true)] [3, 4, 5, 6, 7, 117] [3, 4, 5] [.ref 3 0, .ref 4 0, .ref 5 0, Bv ch_2, I c_2, Bv true] [some (Zad p_1), some (Zdk s_1), some (Zad v_2)] [¬ (c_2 ≠ c_3), ¬ (ch_2 ≠ ch_3), Con Tryz.prog 12 [Zae v_2, Zae v_3] true (Bv true) ∧ (((false = true → true = true) ∧ 1 = 1 ∧ v_2.Labels.length = v_2.Labels.length ∧ ∀ i_, i_ < v_2.Labels.length → (fS v_2.Labels) i_ = (fS v_2.Labels) i_ ∨ (AV.idsL ((fS v_2.Labels) i_) = [] ∧ leL (fun _ => none) false ((fS v_2.Labels) i_) ((fS v_2.Labels) i_))) ∧ ((false = true → true = true) ∧ 1 = 1 ∧ v_2.Weights.length = v_2.Weights.length ∧ ∀ i_, i_ < v_2.Weights.length → (fLI true v_2.Weights) i_ = (fLI false v_2.Weights) i_ ∨ (AV.idsL ((fLI false v_2.Weights) i_) = [] ∧ leL (fun _ => none) false ((fLI true v_2.Weights) i_) ((fLI false v_2.Weights) i_))) ∧ ([] : List AV) = []) ∧ (((false = true → true = true) ∧ 1 = 1 ∧ v_3.Labels.length = v_3.Labels.length ∧ ∀ i_, i_ < v_3.Labels.length → (fS v_3.Labels) i_ = (fS v_3.Labels) i_ ∨ (AV.idsL ((fS v_3.Labels) i_) = [] ∧ leL (fun _ => none) false ((fS v_3.Labels) i_) ((fS v_3.Labels) i_))) ∧ ((false = true → true = true) ∧ 1 = 1 ∧ v_3.Weights.length = v_3.Weights.length ∧ ∀ i_, i_ < v_3.Weights.length → (fLI true v_3.Weights) i_ = (fLI false v_3.Weights) i_ ∨ (AV.idsL ((fLI false v_3.Weights) i_) = [] ∧ leL (fun _ => none) false ((fLI true v_3.Weights) i_) ((fLI false v_3.Weights) i_))) ∧ ([] : List AV) = []) ∧ True, Con Tryz.prog 13 [Zae p_1] true (Sv (Zeq p_1)) ∧ (((false = true → true = true) ∧ 1 = 1 ∧ p_1.Labels.length = p_1.Labels.length ∧ ∀ i_, i_ < p_1.Labels.length → (fS p_1.Labels) i_ = (fS p_1.Labels) i_ ∨ (AV.idsL ((fS p_1.Labels) i_) = [] ∧ leL (fun _ => none) false ((fS p_1.Labels) i_) ((fS p_1.Labels) i_))) ∧ ((false = true → true = true) ∧ 1 = 1 ∧ p_1.Weights.length = p_1.Weights.length ∧ ∀ i_, i_ < p_1.Weights.length → (fLI true p_1.Weights) i_ = (fLI false p_1.Weights) i_ ∨ (AV.idsL ((fLI false p_1.Weights) i_) = [] ∧ leL (fun _ => none) false ((fLI true p_1.Weights) i_) ((fLI false p_1.Weights) i_))) ∧ ([] : List AV) = []) ∧ True, ¬ ((Zeq p_1) ≠ (Zeq p_1)), (Zeq p_1) ≠ (⟨#[]⟩ : ByteArray)] hB ⟨(fun hq => hq (hbr.trans hbm.symm)), (fun hq => hq (hcr.trans hcm.symm)), ⟨(Zaq (Zhx (hxr.trans hxm.symm)) (Zcv v_2 v_3)), ⟨⟨(fun h => by cases h), rfl, rfl, fun i _ => .inl rfl⟩, ⟨⟨(fun h => by cases h), rfl, rfl, fun i _ => .inr ⟨Zev _ _, Zjp _ _ _⟩⟩, rfl⟩⟩, ⟨⟨(fun h => by cases h), rfl, rfl, fun i _ => .inl rfl⟩, ⟨⟨(fun h => by cases h), rfl, rfl, fun i _ => .inr ⟨Zev _ _, Zjp _ _ _⟩⟩, rfl⟩⟩, trivial⟩, ⟨(Zet p_1 hlz), ⟨⟨(fun h => by cases h), rfl, rfl, fun i _ => .inl rfl⟩, ⟨⟨(fun h => by cases h), rfl, rfl, fun i _ => .inr ⟨Zev _ _, Zjp _ _ _⟩⟩, rfl⟩⟩, trivial⟩, (fun hq => hq rfl), h2, trivial⟩ ?_
   refine Zac ?_
   refine Zbc rfl ?_
   refine aR [] [2] [] [Bv false] [] [] hB trivial ?_
   refine Zax ?_
   refine Zai ?_
   refine Zba hB (Bv false) (by kernel_rfl) (.inl (by first | rfl | (refine congrArg Bv ?_; first | exact hxo | (simp [*]; done) | (simp_all; done)))) rfl (fun _ => trivial)
  obtain ⟨htq_, rfl⟩ := hI
  refine Zal ?_
  refine Zal ?_
  by_cases h4 : c_2 = 0
  ·have hfa := to_facts (p := p_1) (s := s_1) (by rw [← hbr]; exact h4)
   have hxo : Zbb v_2 = true := by rw [hxr]; exact hfa.2.2.2.2.1
   have hxl : v_2.Weights.length = p_1.Weights.length := by rw [hxr]; exact hfa.2.2.2.2.2.1
   have hxq := (Zcd.1 hxo).2.2
   have hpq := (Zcd.1 hfa.2.1).2.2
   have hpn := Zkk hfa.2.1
   refine Zby [(1, .dec false)] [3, 4, 5, 6, 119] [3, 4, 5] [.ref 3 0, .ref 4 0, .ref 5 0, Bv ch_2, Bv false] [some (Zad p_1), some (Zdk s_1), some (Zad v_2)] [¬ (c_2 ≠ 0)] hB ⟨(fun hq => hq h4), trivial⟩ ?_
   refine Zac ?_
   refine Zay rfl ?_
   refine Zbf ?_
   refine Zac ?_
   refine Zal ?_
   obtain ⟨l_8, m_8, c_8, hx8_0, hc8⟩ := Znn p_1 s_1.Feats hlz
   have hcl := cls_one hfa.2.1 hfa.2.2.2.1 hx8_0
   have hlw := lab_win (b := Zbk (scR p_1.Weights (Zed s_1.Feats))) hfa.2.1 hfa.2.2.1 (by have q := (Zqy hfa.2.1 hfa.2.2.1).2; have q2 := (Zcd.1 hfa.2.1).2.1; omega)
   rw [← hcl.1] at hlw
   refine Zby [(3, .call [(false, Zae p_1), (false, Zau false s_1.Feats)] true (.tup [Sv l_8, I m_8, I c_8]))] [3, 4, 5, 6, 19, 21] [3, 4, 5] [.ref 3 0, .ref 4 0, .ref 5 0, Bv ch_2, Sv l_8, I c_8] [some (Zad p_1), some (Zdk s_1), some (Zad v_2)] [Con Tryz.prog 16 [Zae p_1, Zau false s_1.Feats] true (.tup [Sv l_8, I m_8, I c_8]) ∧ (((false = true → true = true) ∧ 1 = 1 ∧ p_1.Labels.length = p_1.Labels.length ∧ ∀ i_, i_ < p_1.Labels.length → (fS p_1.Labels) i_ = (fS p_1.Labels) i_ ∨ (AV.idsL ((fS p_1.Labels) i_) = [] ∧ leL (fun _ => none) false ((fS p_1.Labels) i_) ((fS p_1.Labels) i_))) ∧ ((false = true → true = true) ∧ 1 = 1 ∧ p_1.Weights.length = p_1.Weights.length ∧ ∀ i_, i_ < p_1.Weights.length → (fLI true p_1.Weights) i_ = (fLI false p_1.Weights) i_ ∨ (AV.idsL ((fLI false p_1.Weights) i_) = [] ∧ leL (fun _ => none) false ((fLI true p_1.Weights) i_) ((fLI false p_1.Weights) i_))) ∧ ([] : List AV) = []) ∧ ((false = true → true = true) ∧ 3 = 3 ∧ s_1.Feats.length = s_1.Feats.length ∧ ∀ i_, i_ < s_1.Feats.length → (Zdr s_1.Feats) i_ = (Zdr s_1.Feats) i_ ∨ (AV.idsL ((Zdr s_1.Feats) i_) = [] ∧ leL (fun _ => none) false ((Zdr s_1.Feats) i_) ((Zdr s_1.Feats) i_))) ∧ True] hB ⟨⟨hc8, ⟨⟨(fun h => by cases h), rfl, rfl, fun i _ => .inl rfl⟩, ⟨⟨(fun h => by cases h), rfl, rfl, fun i _ => .inr ⟨Zev _ _, Zjp _ _ _⟩⟩, rfl⟩⟩, ⟨(fun h => by cases h), rfl, rfl, fun i _ => .inl rfl⟩, trivial⟩, trivial⟩ ?_
   refine Zac ?_
   refine Yai (fun gσ => (True) ∧ gσ = mkS [(3, .ref 3 0), (5, .ref 5 0)] [(3, Zad p_1), (5, Zad v_2)]) ?_ (fun gσ hI => ?_)
   ·refine Zal ?_
    by_cases h5 : l_8 = s_1.Label
    ·have hw : (toR p_1 s_1).2.1 = false := hfa.2.2.2.2.2.2.2.1.2 (hlw.1 h5)
     obtain rfl : ch_2 = false := (by rw [hcr, hw]; first | done | decide)
     refine Zby [(1, .dec false), (7, .dec false), (16, .call [(false, Zae v_2), (false, Zae p_1)] true (Bv true))] [3, 5, 147] [3, 5] [.ref 3 0, .ref 5 0, Bv false] [some (Zad p_1), some (Zad v_2)] [¬ (c_8 ≠ 0), ¬ (l_8 ≠ s_1.Label), Con Tryz.prog 12 [Zae v_2, Zae p_1] true (Bv true) ∧ (((false = true → true = true) ∧ 1 = 1 ∧ v_2.Labels.length = v_2.Labels.length ∧ ∀ i_, i_ < v_2.Labels.length → (fS v_2.Labels) i_ = (fS v_2.Labels) i_ ∨ (AV.idsL ((fS v_2.Labels) i_) = [] ∧ leL (fun _ => none) false ((fS v_2.Labels) i_) ((fS v_2.Labels) i_))) ∧ ((false = true → true = true) ∧ 1 = 1 ∧ v_2.Weights.length = v_2.Weights.length ∧ ∀ i_, i_ < v_2.Weights.length → (fLI true v_2.Weights) i_ = (fLI false v_2.Weights) i_ ∨ (AV.idsL ((fLI false v_2.Weights) i_) = [] ∧ leL (fun _ => none) false ((fLI true v_2.Weights) i_) ((fLI false v_2.Weights) i_))) ∧ ([] : List AV) = []) ∧ (((false = true → true = true) ∧ 1 = 1 ∧ p_1.Labels.length = p_1.Labels.length ∧ ∀ i_, i_ < p_1.Labels.length → (fS p_1.Labels) i_ = (fS p_1.Labels) i_ ∨ (AV.idsL ((fS p_1.Labels) i_) = [] ∧ leL (fun _ => none) false ((fS p_1.Labels) i_) ((fS p_1.Labels) i_))) ∧ ((false = true → true = true) ∧ 1 = 1 ∧ p_1.Weights.length = p_1.Weights.length ∧ ∀ i_, i_ < p_1.Weights.length → (fLI true p_1.Weights) i_ = (fLI false p_1.Weights) i_ ∨ (AV.idsL ((fLI false p_1.Weights) i_) = [] ∧ leL (fun _ => none) false ((fLI true p_1.Weights) i_) ((fLI false p_1.Weights) i_))) ∧ ([] : List AV) = []) ∧ True] hB ⟨(fun hq => hq hcl.2), (fun hq => hq h5), ⟨(Zaq (Zhx (by rw [hxr]; exact hfa.2.2.2.2.2.2.1 hcr.symm)) (Zcv v_2 p_1)), ⟨⟨(fun h => by cases h), rfl, rfl, fun i _ => .inl rfl⟩, ⟨⟨(fun h => by cases h), rfl, rfl, fun i _ => .inr ⟨Zev _ _, Zjp _ _ _⟩⟩, rfl⟩⟩, ⟨⟨(fun h => by cases h), rfl, rfl, fun i _ => .inl rfl⟩, ⟨⟨(fun h => by cases h), rfl, rfl, fun i _ => .inr ⟨Zev _ _, Zjp _ _ _⟩⟩, rfl⟩⟩, trivial⟩, trivial⟩ ?_
     refine Zac ?_
     refine Zay rfl ?_
     refine Zbf ?_
     refine Zfd hB [] (T := [(3, .ref 3 0), (5, .ref 5 0)]) (O := [(3, Zad p_1), (5, Zad v_2)]) rfl (⟨.inl rfl, .inl rfl, trivial⟩) (⟨.inl rfl, .inl rfl, trivial⟩) (Zsw ⟨(by trivial), rfl⟩)
    have hw : (toR p_1 s_1).2.1 = true := by cases e : (toR p_1 s_1).2.1 with | true => rfl | false => exact absurd (hlw.2 (hfa.2.2.2.2.2.2.2.1.1 e)) h5
    obtain rfl : ch_2 = true := (hcr.trans hw)
    refine Zby [(1, .dec false), (7, .dec true)] [3, 5, 147] [3, 5] [.ref 3 0, .ref 5 0, Bv false] [some (Zad p_1), some (Zad v_2)] [¬ (c_8 ≠ 0), l_8 ≠ s_1.Label] hB ⟨(fun hq => hq hcl.2), h5, trivial⟩ ?_
    refine Zac ?_
    refine Zay rfl ?_
    refine Zbf ?_
    refine Zfd hB [] (T := [(3, .ref 3 0), (5, .ref 5 0)]) (O := [(3, Zad p_1), (5, Zad v_2)]) rfl (⟨.inl rfl, .inl rfl, trivial⟩) (⟨.inl rfl, .inl rfl, trivial⟩) (Zsw ⟨(by trivial), rfl⟩)
   obtain ⟨htr_, rfl⟩ := hI
   refine Zal ?_
   refine aR [] [3, 5, 22] [3, 5] [.ref 3 0, .ref 5 0, I 0] [some (Zad p_1), some (Zad v_2)] [] hB trivial ?_
   refine Zbo ?_
   refine Zdm (fun gn gσ => ∃ (k : Int), gn = ((25 : Int) - k).toNat ∧ (0 ≤ k ∧ k ≤ 25) ∧ gσ = mkS [(3, .ref 3 0), (5, .ref 5 0), (22, I k)] [(3, Zad p_1), (5, Zad v_2)]) (((25 : Int) - 0).toNat) ⟨0, rfl, (by omega), rfl⟩ (fun gn gσ hI => ?_)
   obtain ⟨k, rfl, hk0, rfl⟩ := hI
   refine Zal ?_
   refine Zal ?_
   by_cases h6 : k < 25
   ·have hk : k.toNat < 25 := by omega
    refine Zby [(1, .dec true)] [3, 5, 22, 149] [3, 5] [.ref 3 0, .ref 5 0, I k, Bv true] [some (Zad p_1), some (Zad v_2)] [k < 25] hB ⟨h6, trivial⟩ ?_
    refine Zac ?_
    refine Zbc rfl ?_
    refine Zbf ?_
    refine Zac ?_
    refine Yai (fun gσ => (True) ∧ gσ = mkS [(3, .ref 3 0), (5, .ref 5 0), (22, I k)] [(3, Zad p_1), (5, Zad v_2)]) ?_ (fun gσ hI => ?_)
    ·refine Zbo ?_
     refine aR [] [3, 5, 22, 23] [3, 5] [.ref 3 0, .ref 5 0, I k, I 0] [some (Zad p_1), some (Zad v_2)] [] hB trivial ?_
     refine Zal ?_
     refine aR [] [3, 5, 22, 23, 24] [3, 5] [.ref 3 0, .ref 5 0, I k, I 0, I 0] [some (Zad p_1), some (Zad v_2)] [] hB trivial ?_
     refine Zbo ?_
     refine Zdm (fun gn gσ => ∃ (sum : Int) (i : Int), gn = ((p_1.Weights.length : Int) - i).toNat ∧ (0 ≤ i ∧ i ≤ (p_1.Weights.length : Int)) ∧ (sum = Zvd v_2.Weights p_1.Weights k.toNat i.toNat) ∧ gσ = mkS [(3, .ref 3 0), (5, .ref 5 0), (22, I k), (23, I sum), (24, I i)] [(3, Zad p_1), (5, Zad v_2)]) (((p_1.Weights.length : Int) - 0).toNat) ⟨0, 0, rfl, (by omega), (by rfl), rfl⟩ (fun gn gσ hI => ?_)
     obtain ⟨sum, i, rfl, hi0, hsu, rfl⟩ := hI
     refine Zal ?_
     refine Zal ?_
     by_cases h7 : i < (p_1.Weights.length : Int)
     ·have hsb := Yaj hxq hpq hxl hk i.toNat (by omega)
      have hi : i.toNat < p_1.Weights.length := by omega
      have hr1 := Zcu hxq (j := i.toNat) (by omega)
      have hr2 := Zcu hpq (j := i.toNat) (by omega)
      have hb1 := hr1.2 k.toNat hk
      have hb2 := hr2.2 k.toNat hk
      refine Zby [(4, .dec true)] [3, 5, 22, 23, 24, 156] [3, 5] [.ref 3 0, .ref 5 0, I k, I sum, I i, Bv true] [some (Zad p_1), some (Zad v_2)] [i < (p_1.Weights.length : Int)] hB ⟨h7, trivial⟩ ?_
      refine Zac ?_
      refine Zbc rfl ?_
      refine Zbf ?_
      refine Zac ?_
      refine Zal ?_
      refine Zbo ?_
      refine Zby [] [3, 5, 22, 23, 24] [3, 5] [.ref 3 0, .ref 5 0, I k, I ((sum + (at_ (at_ v_2.Weights i.toNat) k.toNat)) - (at_ (at_ p_1.Weights i.toNat) k.toNat)), I i] [some (Zad p_1), some (Zad v_2)] [(0 : Int) ≤ i ∧ i < (v_2.Weights.length : Int), (0 : Int) ≤ k ∧ k < (((at_ v_2.Weights i.toNat).length) : Int), inR .i64 (sum + (at_ (at_ v_2.Weights i.toNat) k.toNat)), (0 : Int) ≤ i ∧ i < (p_1.Weights.length : Int), (0 : Int) ≤ k ∧ k < (((at_ p_1.Weights i.toNat).length) : Int), inR .i64 ((sum + (at_ (at_ v_2.Weights i.toNat) k.toNat)) - (at_ (at_ p_1.Weights i.toNat) k.toNat))] hB ⟨⟨(by omega), (by omega)⟩, ⟨(by omega), (by omega)⟩, (Zam (by omega) (by omega)), ⟨(by omega), (by omega)⟩, ⟨(by omega), (by omega)⟩, (Zam (by omega) (by omega)), trivial⟩ ?_
      refine Zco 3 ?_
      refine Zac ?_
      refine Zby [] [3, 5, 22, 23, 24] [3, 5] [.ref 3 0, .ref 5 0, I k, I ((sum + (at_ (at_ v_2.Weights i.toNat) k.toNat)) - (at_ (at_ p_1.Weights i.toNat) k.toNat)), I (i + 1)] [some (Zad p_1), some (Zad v_2)] [inR .i64 (i + 1)] hB ⟨(Zam (by omega) (by omega)), trivial⟩ ?_
      exact Zcr _ (by omega) ⟨((sum + (at_ (at_ v_2.Weights i.toNat) k.toNat)) - (at_ (at_ p_1.Weights i.toNat) k.toNat)), (i + 1), rfl, (by omega), (by rw [sumD_1 hi0.1, ← hsu]), rfl⟩
     have hie : i.toNat = p_1.Weights.length := by omega
     have hz0 : sum = 0 := by rw [hsu, hie, hxr]; exact hfa.2.2.2.2.2.2.2.2 k.toNat hk
     refine Zby [(4, .dec false)] [3, 5, 22, 23, 24, 156] [3, 5] [.ref 3 0, .ref 5 0, I k, I sum, I i, Bv false] [some (Zad p_1), some (Zad v_2)] [¬ (i < (p_1.Weights.length : Int))] hB ⟨h7, trivial⟩ ?_
     refine Zac ?_
     refine Zay rfl ?_
     refine Zdn ?_
     refine Zas ?_
     refine Zas ?_
     refine Zbx ?_
     refine Zac ?_
     refine aR [(1, .dec false)] [3, 5, 22, 179] [3, 5] [.ref 3 0, .ref 5 0, I k, Bv false] [some (Zad p_1), some (Zad v_2)] [¬ (sum ≠ 0)] hB ⟨(fun hq => hq hz0), trivial⟩ ?_
     refine Zay rfl ?_
     refine Zbf ?_
     refine Zco 1 ?_
     refine Zfd hB [] (T := [(3, .ref 3 0), (5, .ref 5 0), (22, I k)]) (O := [(3, Zad p_1), (5, Zad v_2)]) rfl (⟨.inl rfl, .inl rfl, .inl rfl, trivial⟩) (⟨.inl rfl, .inl rfl, trivial⟩) (Zsw ⟨(by trivial), rfl⟩)
    obtain ⟨htr_, rfl⟩ := hI
    refine Zby [] [3, 5, 22] [3, 5] [.ref 3 0, .ref 5 0, I (k + 1)] [some (Zad p_1), some (Zad v_2)] [inR .i64 (k + 1)] hB ⟨(Zam (by omega) (by omega)), trivial⟩ ?_
    exact Zcr _ (by omega) ⟨(k + 1), rfl, (by omega), rfl⟩
   refine Zby [(1, .dec false)] [3, 5, 22, 149] [3, 5] [.ref 3 0, .ref 5 0, I k, Bv false] [some (Zad p_1), some (Zad v_2)] [¬ (k < 25)] hB ⟨h6, trivial⟩ ?_
   refine Zac ?_
   refine Zay rfl ?_
   refine Zdn ?_
   refine Zas ?_
   refine Zas ?_
   refine Zbx ?_
   refine Zac ?_
   refine aR [(1, .call [(false, Zae v_2)] true (Bv (Zbb v_2)))] [2] [] [Bv (Zbb v_2)] [] [Con Tryz.prog 14 [Zae v_2] true (Bv (Zbb v_2)) ∧ (((false = true → true = true) ∧ 1 = 1 ∧ v_2.Labels.length = v_2.Labels.length ∧ ∀ i_, i_ < v_2.Labels.length → (fS v_2.Labels) i_ = (fS v_2.Labels) i_ ∨ (AV.idsL ((fS v_2.Labels) i_) = [] ∧ leL (fun _ => none) false ((fS v_2.Labels) i_) ((fS v_2.Labels) i_))) ∧ ((false = true → true = true) ∧ 1 = 1 ∧ v_2.Weights.length = v_2.Weights.length ∧ ∀ i_, i_ < v_2.Weights.length → (fLI true v_2.Weights) i_ = (fLI false v_2.Weights) i_ ∨ (AV.idsL ((fLI false v_2.Weights) i_) = [] ∧ leL (fun _ => none) false ((fLI true v_2.Weights) i_) ((fLI false v_2.Weights) i_))) ∧ ([] : List AV) = []) ∧ True] hB ⟨⟨(Zbl v_2 (by first | exact hlz | (rw [hxr]; exact Zno hfa.2.2.2.2.1))), ⟨⟨(fun h => by cases h), rfl, rfl, fun i _ => .inl rfl⟩, ⟨⟨(fun h => by cases h), rfl, rfl, fun i _ => .inr ⟨Zev _ _, Zjp _ _ _⟩⟩, rfl⟩⟩, trivial⟩, trivial⟩ ?_
   refine Zax ?_
   refine Zba hB (Bv (Zbb v_2)) (by kernel_rfl) (.inl (by first | rfl | (refine congrArg Bv ?_; first | exact hxo | (simp [*]; done) | (simp_all; done)))) rfl (fun _ => trivial)
  refine Zby [(1, .dec true)] [3, 4, 5, 6, 119] [3, 4, 5] [.ref 3 0, .ref 4 0, .ref 5 0, Bv ch_2, Bv true] [some (Zad p_1), some (Zdk s_1), some (Zad v_2)] [c_2 ≠ 0] hB ⟨h4, trivial⟩ ?_
  refine Zac ?_
  refine Zbc rfl ?_
  refine aR [] [2] [] [Bv true] [] [] hB trivial ?_
  refine Zax ?_
  refine Zai ?_
  refine Zba hB (Bv true) (by kernel_rfl) (.inl rfl) rfl (fun _ => trivial)
theorem Yak : Zxi Tryz.prog 22 (cLU8 false) (fun xs => ∀ y ∈ xs, inR .u8 y) :=
  Zsx (c := cU8) (sz := 1) Tryz.underlying22 (by kernel_rfl) (by decide) (fun x => ⟨rfl, by simp [Zpf, cU8]⟩) (Zza Tryz.underlying5)
namespace fnTraining
set_option maxRecDepth 100000 in
theorem lifted (os : Os) (started : os.Started) (H : Type) (enc : TypeId × Value → H) :
    ReturnsInHanded {} Tryz.checked os 3 .any (fun w args => (Rows.fnTrainingSpec.pre enc Tryz.prog Tryz.f3 Rows.fnTrainingRow.domain false w args ∧ laidMetH Tryz.prog Rows.fnTrainingRow.laid w) ∧ sizedMet enc Tryz.prog Tryz.f3 (OpenSpec.ofChange Rows.fnTrainingSpec) false w args)
      (Rows.fnTrainingSpec.post enc Tryz.prog Tryz.f3 false true false false) := by
  refine returnsInHanded_of_change_and (C := Tryz.checked) (X := fun w _ => laidMetH Tryz.prog Rows.fnTrainingRow.laid w) (fun _ _ _ hh h => h.of_heap hh) Tryz.own started (by kernel_rfl) Tryz.func3
    (ChangeSpec.witness_shaped (enc := enc) (C := Tryz.checked) (os := os) (X := fun w _ => laidMetH Tryz.prog Rows.fnTrainingRow.laid w) false (World.laidAll Tryz.prog os Rows.fnTrainingRow.laid) #[.slice none 0 0] 8 (World.laidAll_os _ _ _)
      (World.shaped_of_ZipB (by kernel_rfl) (by kernel_rfl)) (by kernel_rfl) (by kernel_rfl) (by kernel_rfl)
      (by rw [MakeChecks.laidMetH_plain _ _ _ (by kernel_rfl)]; exact laidMet_laidAll _ (by kernel_rfl) (by kernel_rfl))) ?_
  intro W base args ds gs before hval0 hW hcnd hsz hL _
  have hW' := hW
  obtain ⟨p, q, hA0, hV, rfl, hfz, hnd⟩ := hW
  have hval : ∀ (j : Nat) t v, Tryz.f3.params[j]? = some t → args[j]? = some v → Value.okWide Tryz.prog W .any base t v := hval0
  have hA : DataW.TrodAll enc Tryz.prog W 0 (fun _ => true) true Tryz.f3.params.toList args.toList ds p := hA0
  rw [Tryz.params3] at hA hval
  obtain ⟨v0, vs0, d0, ds0, p0, q0, hargs, rfl, rfl, h0, r0⟩ := trodAll_cons hA
  obtain ⟨rfl, rfl, rfl⟩ := trodAll_nil r0
  obtain rfl : args = #[v0] := args_eq hargs
  obtain ⟨rfl, rfl⟩ := trodVars_none hV
  obtain ⟨fuel0, hf0⟩ := h0
  obtain ⟨A0, l0, c0, rfl⟩ := okWide_slice Tryz.underlying22 (hval 0 22 v0 rfl rfl)
  obtain ⟨x0, rx0, ok0⟩ := (Yak) enc W 0 _ _ _ _ _ hf0
  refine (walk_of0 (Zph x0 ok0) (fun w hk => Zqz (WX_laid (by rw [MakeChecks.laidMetH_plain _ _ _ (by kernel_rfl)] at hL; first | exact hL | exact hL.tail | exact hL.tail.tail | exact hL.tail.tail.tail | exact hL.tail.tail.tail.tail | exact hL.tail.tail.tail.tail.tail | exact hL.tail.tail.tail.tail.tail.tail | exact hL.tail.tail.tail.tail.tail.tail.tail | exact hL.tail.tail.tail.tail.tail.tail.tail.tail) (by rw [MakeChecks.laidMetH_plain _ _ _ (by kernel_rfl)] at hL; first | exact hL | exact hL.tail | exact hL.tail.tail | exact hL.tail.tail.tail | exact hL.tail.tail.tail.tail | exact hL.tail.tail.tail.tail.tail | exact hL.tail.tail.tail.tail.tail.tail | exact hL.tail.tail.tail.tail.tail.tail.tail | exact hL.tail.tail.tail.tail.tail.tail.tail.tail) (by rw [MakeChecks.laidMetH_plain _ _ _ (by kernel_rfl)] at hL; first | exact hL | exact hL.tail | exact hL.tail.tail | exact hL.tail.tail.tail | exact hL.tail.tail.tail.tail | exact hL.tail.tail.tail.tail.tail | exact hL.tail.tail.tail.tail.tail.tail | exact hL.tail.tail.tail.tail.tail.tail.tail | exact hL.tail.tail.tail.tail.tail.tail.tail.tail)) w ⟨hk.os, hk.tape, hk.output, hk.size, fun k h1 => hk.block k h1 id⟩) (RelTL.cons (Yal rx0) RelTL.nil)).mono fun e W1 ⟨he, hb⟩ => ?_
  subst he
  exact ⟨_, rfl, law_post Tryz.laidOut rfl Tryz.underlying4 (of_decide_eq_true (by kernel_rfl)) rfl hW' hb rfl⟩
theorem over : Rows.fnTrainingRow.holds Tryz.pinned (OpenSpec.ofChange Rows.fnTrainingSpec) :=
  OpenClaim.holds_of_wide 3 Tryz.f3 rfl rfl rfl rfl rfl rfl rfl ⟨rfl, rfl, rfl, rfl, rfl⟩ rfl rfl rfl rfl rfl (by kernel_rfl) Tryz.func3 (by kernel_rfl)
    (of_decide_eq_true (by kernel_rfl)) (by unfold Func.isWrapper; first | (rw [if_pos (by decide +kernel)]; kernel_rfl) | (rw [if_neg (by decide +kernel)]; exact ⟨rfl, rfl⟩))
    (fun os started H enc _ => lifted os started H enc)
theorem proved : Rows.FnTrainingCardSaid :=
  Claim7.holds_tied_plain_at .later [] [.data, .data, .data, .data, .sentinel, .sentinel, .pinned] true (true, "e6a8a850f03118941968b47ef2ce195975a84d1f07d622235fccfef23f844bcd") true over (fun _ h => by cases h) (by kernel_rfl) (fun _ h => by cases h) fnTraining_row_tie rfl ⟨rfl, rfl⟩ (by kernel_rfl) rfl
    (fun f fn hf hfn => by
      obtain rfl : f = 3 := Option.some.inj ((show Tryz.prog.funcNamed "loop.example/g00918/laws.FnTraining" = some 3 by kernel_rfl).symm.trans hf) |>.symm
      obtain rfl : fn = Tryz.f3 := (Option.some.inj (Tryz.func3.symm.trans hfn)).symm
      exact ⟨by kernel_rfl, fun j t ht => by
        rw [Tryz.params3] at ht
        have hm : t ∈ [22] := by simpa using Array.mem_of_getElem? ht
        have hall : ([22].all fun u => !Tryz.prog.wantsStandIn u) = true := by kernel_rfl
        exact (show Tryz.prog.wantsStandIn t = false by simpa using List.all_eq_true.1 hall t hm)⟩)
    (by kernel_rfl)
#print axioms proved
end fnTraining
end Go.Proofs.YtblhhmcplocepaaGreatDoor.Ax
