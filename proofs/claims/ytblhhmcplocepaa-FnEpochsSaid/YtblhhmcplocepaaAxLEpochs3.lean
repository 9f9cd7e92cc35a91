/- Contracts that the statement FnEpochs reaches, part 3. No conditions. -/
import Derived.Test.YtblhhmcplocepaaAxLEpochs2
import Derived.Test.YtblhhmcplocepaaAxR
import Derived.Test.YtblhhmcplocepaaAxS
namespace Go.Proofs.Ytblhhmcplocepaa.Ax
open Go.RowKit Go.ChangeShapes Go.WideShapes
set_option linter.unusedVariables false
set_option linter.unusedSimpArgs false


-- impl.validClasses
theorem validClasses_ok (labels : List ByteArray) (ok : ∀ y ∈ labels, y.size ≤ 9223372036854775807) : Con Try.prog 48 [slS false labels] true (Bv (okLabels labels)) := by
  refine fn_ok (fn := Try.f48) (nt := 37) Try.func48 rfl rfl rfl rfl (by simp [taggedL, tagged, tagS]) fun B hB => ?_
  refine aw_lens (x := slS false labels) 0 rfl (fun len_labels => ?_)
  simp [LenOK, LenL, cS, fS, slS] at len_labels
  refine aR [] [0] [] [slS false labels] [] [] hB trivial ?_
  refine aw_seq ?_
  refine aR [] [0, 5, 6, 7] [] [slS false labels, slS false labels, I (labels.length : Int), I 0] [] [] hB trivial ?_
  refine aw_block ?_
  refine aw_loop (fun gn gσ => ∃ (t7 : Int), gn = ((labels.length : Int) - t7).toNat ∧ (0 ≤ t7 ∧ t7 ≤ (labels.length : Int)) ∧ (∀ j : Nat, (j : Int) < t7 → labOk labels j = true) ∧ gσ = mkS [(0, slS false labels), (5, slS false labels), (6, I (labels.length : Int)), (7, I t7)] []) (((labels.length : Int) - 0).toNat) ⟨0, rfl, (by omega), (by intro j hj; omega), rfl⟩ (fun gn gσ hI => ?_)
  obtain ⟨t7, rfl, hi0, hall0, rfl⟩ := hI
  refine aw_seq ?_
  by_cases h1 : t7 < (labels.length : Int)
  ·have hi : t7.toNat < labels.length := by omega
   refine aw_r [(0, .dec true)] [0, 5, 6, 7, 8] [] [slS false labels, slS false labels, I (labels.length : Int), I t7, Bv true] [] [t7 < (labels.length : Int)] hB ⟨h1, trivial⟩ ?_
   refine ae_then ?_
   refine aw_seq ?_
   refine aw_true rfl ?_
   refine aw_skip ?_
   refine ae_then ?_
   refine aw_seq ?_
   refine aw_block ?_
   refine aR [] [0, 3, 4, 5, 6, 7] [] [slS false labels, I t7, Sv (at_ labels t7.toNat), slS false labels, I (labels.length : Int), I t7] [] [(0 : Int) ≤ t7 ∧ t7 < (labels.length : Int)] hB ⟨⟨(by omega), (by omega)⟩, trivial⟩ ?_
   refine aw_seq ?_
   rcases Bool.eq_false_or_eq_true (okLabel (at_ labels t7.toNat)) with h2 | h2
   ·have hlb := h2
    by_cases h3 : 0 < t7
    ·by_cases h4 : sless (at_ labels t7.toNat) (at_ labels ((t7 - 1).toNat)) = true ∨ (at_ labels t7.toNat) = (at_ labels ((t7 - 1).toNat))
     ·have hst := okLabels_no hi (labOk_b (by omega) (rise_yes h4))
      refine aw_r [(1, .call [(true, .any)] true (Bv true)), (5, .dec true), (13, .dec true)] [0, 5, 6, 7, 27] [] [slS false labels, slS false labels, I (labels.length : Int), I t7, Bv true] [] [Con Try.prog 77 [Sv (at_ labels t7.toNat)] true (Bv true) ∧ True, 0 < t7, inR .i64 (t7 - 1), (0 : Int) ≤ (t7 - 1) ∧ (t7 - 1) < (labels.length : Int), sless (at_ labels t7.toNat) (at_ labels ((t7 - 1).toNat)) = true ∨ (at_ labels t7.toNat) = (at_ labels ((t7 - 1).toNat))] hB ⟨⟨(con_bool h2 (implIsLabel_ok (at_ labels t7.toNat) (ok _ (at_mem hi)))), trivial⟩, h3, (inR_i64 (by omega) (by omega)), ⟨(by omega), (by omega)⟩, h4, trivial⟩ ?_
      refine ae_then ?_
      refine aw_true rfl ?_
      refine aR [] [2] [] [Bv false] [] [] hB trivial ?_
      refine aw_ret ?_
      refine ae_ret_block (ae_ret_then (ae_ret_then (ae_ret_block (ae_ret_then ?_))))
      refine ae_ret hB (Bv false) (by kernel_rfl) (.inl (by refine congrArg Bv ?_; first | exact hst.symm | (rw [hgo]; first | rfl | exact (decide_eq_false (by omega)).symm | exact (decide_eq_true (by omega)).symm | exact decide_eq_decide.2 (by omega) | (unfold inB; exact decide_eq_decide.2 (by omega))))) rfl (fun _ => trivial)
     have hok := labOk_yes hi0.1 hlb (.inr (rise_not h4))
     refine aw_r [(1, .call [(true, .any)] true (Bv true)), (5, .dec true), (13, .dec false)] [0, 5, 6, 7, 27] [] [slS false labels, slS false labels, I (labels.length : Int), I t7, Bv false] [] [Con Try.prog 77 [Sv (at_ labels t7.toNat)] true (Bv true) ∧ True, 0 < t7, inR .i64 (t7 - 1), (0 : Int) ≤ (t7 - 1) ∧ (t7 - 1) < (labels.length : Int), ¬ (sless (at_ labels t7.toNat) (at_ labels ((t7 - 1).toNat)) = true ∨ (at_ labels t7.toNat) = (at_ labels ((t7 - 1).toNat)))] hB ⟨⟨(con_bool h2 (implIsLabel_ok (at_ labels t7.toNat) (ok _ (at_mem hi)))), trivial⟩, h3, (inR_i64 (by omega) (by omega)), ⟨(by omega), (by omega)⟩, h4, trivial⟩ ?_
     refine ae_then ?_
     refine aw_false rfl ?_
     refine aw_skip ?_
     refine ae_block 1 ?_
     refine ae_then ?_
     refine aw_r [] [0, 5, 6, 7] [] [slS false labels, slS false labels, I (labels.length : Int), I (t7 + 1)] [] [inR .i64 (t7 + 1)] hB ⟨(inR_i64 (by omega) (by omega)), trivial⟩ ?_
     exact ae_again _ (by omega) ⟨(t7 + 1), rfl, (by omega), (by intro j hj; by_cases ej : j = t7.toNat; (subst ej; first | assumption | exact hok); exact hall0 j (by omega)), rfl⟩
    have hok := labOk_yes hi0.1 hlb (.inl (by omega))
    refine aw_r [(1, .call [(true, .any)] true (Bv true)), (5, .dec false)] [0, 5, 6, 7, 27] [] [slS false labels, slS false labels, I (labels.length : Int), I t7, Bv false] [] [Con Try.prog 77 [Sv (at_ labels t7.toNat)] true (Bv true) ∧ True, ¬ (0 < t7)] hB ⟨⟨(con_bool h2 (implIsLabel_ok (at_ labels t7.toNat) (ok _ (at_mem hi)))), trivial⟩, h3, trivial⟩ ?_
    refine ae_then ?_
    refine aw_false rfl ?_
    refine aw_skip ?_
    refine ae_block 1 ?_
    refine ae_then ?_
    refine aw_r [] [0, 5, 6, 7] [] [slS false labels, slS false labels, I (labels.length : Int), I (t7 + 1)] [] [inR .i64 (t7 + 1)] hB ⟨(inR_i64 (by omega) (by omega)), trivial⟩ ?_
    exact ae_again _ (by omega) ⟨(t7 + 1), rfl, (by omega), (by intro j hj; by_cases ej : j = t7.toNat; (subst ej; first | assumption | exact hok); exact hall0 j (by omega)), rfl⟩
   have hst := okLabels_no hi (labOk_a h2)
   refine aw_r [(1, .call [(true, .any)] true (Bv false))] [0, 5, 6, 7, 27] [] [slS false labels, slS false labels, I (labels.length : Int), I t7, Bv true] [] [Con Try.prog 77 [Sv (at_ labels t7.toNat)] true (Bv false) ∧ True] hB ⟨⟨(con_bool h2 (implIsLabel_ok (at_ labels t7.toNat) (ok _ (at_mem hi)))), trivial⟩, trivial⟩ ?_
   refine ae_then ?_
   refine aw_true rfl ?_
   refine aR [] [2] [] [Bv false] [] [] hB trivial ?_
   refine aw_ret ?_
   refine ae_ret_block (ae_ret_then (ae_ret_then (ae_ret_block (ae_ret_then ?_))))
   refine ae_ret hB (Bv false) (by kernel_rfl) (.inl (by refine congrArg Bv ?_; first | exact hst.symm | (rw [hgo]; first | rfl | exact (decide_eq_false (by omega)).symm | exact (decide_eq_true (by omega)).symm | exact decide_eq_decide.2 (by omega) | (unfold inB; exact decide_eq_decide.2 (by omega))))) rfl (fun _ => trivial)
  have hgo := okLabels_go (ls := labels) (fun j hj => hall0 j (by omega))
  refine aw_r [(0, .dec false)] [0, 5, 6, 7, 8] [] [slS false labels, slS false labels, I (labels.length : Int), I t7, Bv false] [] [¬ (t7 < (labels.length : Int))] hB ⟨h1, trivial⟩ ?_
  refine ae_then ?_
  refine aw_seq ?_
  refine aw_false rfl ?_
  refine aw_exit ?_
  refine ae_exit_then ?_
  refine ae_exit_then ?_
  refine ae_exit_same ?_
  refine ae_then ?_
  refine aw_seq ?_
  by_cases h5 : 1 ≤ (labels.length : Int)
  ·refine aw_r [(2, .dec true)] [2] [] [Bv (decide ((labels.length : Int) ≤ 12))] [] [1 ≤ (labels.length : Int)] hB ⟨h5, trivial⟩ ?_
   refine ae_then ?_
   refine aw_ret ?_
   refine ae_ret hB (Bv (decide ((labels.length : Int) ≤ 12))) (by kernel_rfl) (.inl (by refine congrArg Bv ?_; first | exact hst.symm | (rw [hgo]; first | rfl | exact (decide_eq_false (by omega)).symm | exact (decide_eq_true (by omega)).symm | exact decide_eq_decide.2 (by omega) | (unfold inB; exact decide_eq_decide.2 (by omega))))) rfl (fun _ => trivial)
  refine aw_r [(2, .dec false)] [2] [] [Bv false] [] [¬ (1 ≤ (labels.length : Int))] hB ⟨h5, trivial⟩ ?_
  refine ae_then ?_
  refine aw_ret ?_
  refine ae_ret hB (Bv false) (by kernel_rfl) (.inl (by refine congrArg Bv ?_; first | exact hst.symm | (rw [hgo]; first | rfl | exact (decide_eq_false (by omega)).symm | exact (decide_eq_true (by omega)).symm | exact decide_eq_decide.2 (by omega) | (unfold inB; exact decide_eq_decide.2 (by omega))))) rfl (fun _ => trivial)


-- impl.within
theorem within_ok (n : Int) (low : Int) (high : Int) : Con Try.prog 60 [I n, I low, I high] true (Bv (inB n low high)) := by
  refine fn_ok (fn := Try.f60) (nt := 15) Try.func60 rfl rfl rfl rfl (by simp [taggedL, tagged]) fun B hB => ?_
  refine aR [] [0, 1, 2] [] [I n, I low, I high] [] [] hB trivial ?_
  refine aw_seq ?_
  by_cases h1 : low ≤ n
  ·refine aw_r [(2, .dec true)] [6] [] [Bv (decide (n ≤ high))] [] [low ≤ n] hB ⟨h1, trivial⟩ ?_
   refine ae_then ?_
   refine aw_ret ?_
   refine ae_ret hB (Bv (decide (n ≤ high))) (by kernel_rfl) (.inl (by first | rfl | (refine congrArg Bv ?_; simp [inB, *]; done) | (refine congrArg Bv ?_; simp [inB, *]; omega) | (refine congrArg Bv ?_; simp_all [inB]; done) | (refine congrArg Bv ?_; simp_all [inB]; omega))) rfl (fun _ => trivial)
  refine aw_r [(2, .dec false)] [6] [] [Bv false] [] [¬ (low ≤ n)] hB ⟨h1, trivial⟩ ?_
  refine ae_then ?_
  refine aw_ret ?_
  refine ae_ret hB (Bv false) (by kernel_rfl) (.inl (by first | rfl | (refine congrArg Bv ?_; simp [inB, *]; done) | (refine congrArg Bv ?_; simp [inB, *]; omega) | (refine congrArg Bv ?_; simp_all [inB]; done) | (refine congrArg Bv ?_; simp_all [inB]; omega))) rfl (fun _ => trivial)


-- impl.validRow$1
theorem validRow1_ok (w : Int) : Con Try.prog 94 [I w] true (Bv (!(okW w))) := by
  refine fn_ok (fn := Try.f94) (nt := 6) Try.func94 rfl rfl rfl rfl (by simp [taggedL, tagged]) fun B hB => ?_
  refine aR [] [0] [] [I w] [] [] hB trivial ?_
  refine aR [(1, .call [(true, .any), (true, .any), (true, .any)] true (Bv (inB w (-1000000) 1000000)))] [2] [] [Bv (!(inB w (-1000000) 1000000))] [] [Con Try.prog 60 [I w, I (-1000000), I 1000000] true (Bv (inB w (-1000000) 1000000)) ∧ True] hB ⟨⟨(within_ok w (-1000000) 1000000), trivial⟩, trivial⟩ ?_
  refine aw_ret ?_
  refine ae_ret hB (Bv (!(inB w (-1000000) 1000000))) (by kernel_rfl) (.inl (by first | rfl | (refine congrArg Bv ?_; simp [okW, *]; done) | (refine congrArg Bv ?_; simp [okW, *]; omega) | (refine congrArg Bv ?_; simp_all [okW]; done) | (refine congrArg Bv ?_; simp_all [okW]; omega))) rfl (fun _ => trivial)


-- impl.validRow
theorem containsW_ok_idx (s : List Int) : Con Try.prog 105 [slI false s, .fn 94 []] true (I (firstN s.length (fun j => (!(okW (at_ s j)))))) := by
  refine fn_ok (fn := Try.f105) (nt := 19) Try.func105 rfl rfl rfl rfl (by simp [taggedL, tagged, tagI]) fun B hB => ?_
  refine aw_lens (x := slI false s) 0 rfl (fun len_s => ?_)
  simp [LenOK, LenL, cI, fI, slI] at len_s
  refine aR [] [0, 1] [] [slI false s, .fn 94 []] [] [] hB trivial ?_
  refine aw_seq ?_
  refine aR [] [0, 1, 7, 8] [] [slI false s, .fn 94 [], I (s.length : Int), I 0] [] [] hB trivial ?_
  refine aw_block ?_
  refine aw_loop (fun gn gσ => ∃ (t8 : Int), gn = ((s.length : Int) - t8).toNat ∧ (0 ≤ t8 ∧ t8 ≤ (s.length : Int)) ∧ (∀ j : Nat, (j : Int) < t8 → (!(okW (at_ s j))) = false) ∧ gσ = mkS [(0, slI false s), (1, .fn 94 []), (7, I (s.length : Int)), (8, I t8)] []) (((s.length : Int) - 0).toNat) ⟨0, rfl, (by omega), (by intro j hj; omega), rfl⟩ (fun gn gσ hI => ?_)
  obtain ⟨t8, rfl, hi0, hall0, rfl⟩ := hI
  refine aw_seq ?_
  by_cases h1 : t8 < (s.length : Int)
  ·have hi : t8.toNat < s.length := by omega
   refine aw_r [(0, .dec true)] [0, 1, 7, 8, 9] [] [slI false s, .fn 94 [], I (s.length : Int), I t8, Bv true] [] [t8 < (s.length : Int)] hB ⟨h1, trivial⟩ ?_
   refine ae_then ?_
   refine aw_seq ?_
   refine aw_true rfl ?_
   refine aw_skip ?_
   refine ae_then ?_
   refine aw_seq ?_
   refine aw_block ?_
   refine aR [] [0, 1, 5, 7, 8] [] [slI false s, .fn 94 [], I t8, I (s.length : Int), I t8] [] [] hB trivial ?_
   refine aw_seq ?_
   rcases Bool.eq_false_or_eq_true (!(okW (at_ s t8.toNat))) with h2 | h2
   ·have hfin : firstN s.length (fun j => (!(okW (at_ s j)))) = t8.toNat := firstN_hit hi h2 (fun j hj => hall0 j (by omega))
    refine aw_r [(5, .call [(true, .any)] true (Bv true))] [0, 1, 5, 7, 8, 16] [] [slI false s, .fn 94 [], I t8, I (s.length : Int), I t8, Bv true] [] [(0 : Int) ≤ t8 ∧ t8 < (s.length : Int), Con Try.prog 94 [I (at_ s t8.toNat)] true (Bv true) ∧ True] hB ⟨⟨(by omega), (by omega)⟩, ⟨(con_bool h2 (validRow1_ok (at_ s t8.toNat))), trivial⟩, trivial⟩ ?_
    refine ae_then ?_
    refine aw_true rfl ?_
    refine aR [] [4] [] [I t8] [] [] hB trivial ?_
    refine aw_ret ?_
    refine ae_ret_block (ae_ret_then (ae_ret_then (ae_ret_block (ae_ret_then ?_))))
    refine ae_ret hB (I t8) (by kernel_rfl) (.inl (by refine congrArg I ?_; first | (rw [hfin]; done) | (rw [hfin]; omega))) rfl (fun _ => trivial)
   refine aw_r [(5, .call [(true, .any)] true (Bv false))] [0, 1, 5, 7, 8, 16] [] [slI false s, .fn 94 [], I t8, I (s.length : Int), I t8, Bv false] [] [(0 : Int) ≤ t8 ∧ t8 < (s.length : Int), Con Try.prog 94 [I (at_ s t8.toNat)] true (Bv false) ∧ True] hB ⟨⟨(by omega), (by omega)⟩, ⟨(con_bool h2 (validRow1_ok (at_ s t8.toNat))), trivial⟩, trivial⟩ ?_
   refine ae_then ?_
   refine aw_false rfl ?_
   refine aw_skip ?_
   refine ae_block 1 ?_
   refine ae_then ?_
   refine aw_r [] [0, 1, 7, 8] [] [slI false s, .fn 94 [], I (s.length : Int), I (t8 + 1)] [] [inR .i64 (t8 + 1)] hB ⟨(inR_i64 (by omega) (by omega)), trivial⟩ ?_
   exact ae_again _ (by omega) ⟨(t8 + 1), rfl, (by omega), (by intro j hj; by_cases ej : j = t8.toNat; (subst ej; first | assumption | rfl); exact hall0 j (by omega)), rfl⟩
  have hfin : firstN s.length (fun j => (!(okW (at_ s j)))) = -1 := firstN_none (fun j hj => hall0 j (by omega))
  refine aw_r [(0, .dec false)] [0, 1, 7, 8, 9] [] [slI false s, .fn 94 [], I (s.length : Int), I t8, Bv false] [] [¬ (t8 < (s.length : Int))] hB ⟨h1, trivial⟩ ?_
  refine ae_then ?_
  refine aw_seq ?_
  refine aw_false rfl ?_
  refine aw_exit ?_
  refine ae_exit_then ?_
  refine ae_exit_then ?_
  refine ae_exit_same ?_
  refine ae_then ?_
  refine aR [] [4] [] [I (-1)] [] [] hB trivial ?_
  refine aw_ret ?_
  refine ae_ret hB (I (-1)) (by kernel_rfl) (.inl (by refine congrArg I ?_; first | (rw [hfin]; done) | (rw [hfin]; omega))) rfl (fun _ => trivial)

theorem containsW_ok (s : List Int) : Con Try.prog 93 [slI false s, .fn 94 []] true (Bv (anyN s.length (fun j => (!(okW (at_ s j)))))) := by
  refine fn_ok (fn := Try.f93) (nt := 9) Try.func93 rfl rfl rfl rfl (by simp [taggedL, tagged, tagI]) fun B hB => ?_
  refine aw_lens (x := slI false s) 0 rfl (fun len_s => ?_)
  simp [LenOK, LenL, cI, fI, slI] at len_s
  refine aR [] [0, 1] [] [slI false s, .fn 94 []] [] [] hB trivial ?_
  refine aR [(2, .call [(true, .any), (true, .any)] true (I (firstN s.length (fun j => (!(okW (at_ s j)))))))] [4] [] [Bv (decide (0 ≤ (firstN s.length (fun j => (!(okW (at_ s j)))))))] [] [Con Try.prog 105 [slI false s, .fn 94 []] true (I (firstN s.length (fun j => (!(okW (at_ s j)))))) ∧ True] hB ⟨⟨(containsW_ok_idx s), trivial⟩, trivial⟩ ?_
  refine aw_ret ?_
  refine ae_ret hB (Bv (decide (0 ≤ (firstN s.length (fun j => (!(okW (at_ s j)))))))) (by kernel_rfl) (.inl (by exact congrArg Bv (firstN_any _ _))) rfl (fun _ => trivial)

theorem validRow_ok (row : List Int) : Con Try.prog 71 [slI false row] true (Bv (okRow row)) := by
  refine fn_ok (fn := Try.f71) (nt := 11) Try.func71 rfl rfl rfl rfl (by simp [taggedL, tagged, tagI]) fun B hB => ?_
  refine aw_lens (x := slI false row) 0 rfl (fun len_row => ?_)
  simp [LenOK, LenL, cI, fI, slI] at len_row
  refine aR [] [0] [] [slI false row] [] [] hB trivial ?_
  refine aw_seq ?_
  by_cases h1 : (row.length : Int) = 25
  ·refine aw_r [(2, .dec true), (5, .call [(true, .any), (true, .any)] true (Bv (anyN row.length (fun j => (!(okW (at_ row j)))))))] [2] [] [Bv (!(anyN row.length (fun j => (!(okW (at_ row j))))))] [] [(row.length : Int) = 25, Con Try.prog 93 [slI false row, .fn 94 []] true (Bv (anyN row.length (fun j => (!(okW (at_ row j)))))) ∧ True] hB ⟨h1, ⟨(containsW_ok row), trivial⟩, trivial⟩ ?_
   refine ae_then ?_
   refine aw_ret ?_
   refine ae_ret hB (Bv (!(anyN row.length (fun j => (!(okW (at_ row j))))))) (by kernel_rfl) (.inl (by refine congrArg Bv ?_; unfold okRow; first | (rw [decide_eq_false (by omega)]; rfl) | (rw [anyN_not, decide_eq_true (by omega)]; simp))) rfl (fun _ => trivial)
  refine aw_r [(2, .dec false)] [2] [] [Bv false] [] [¬ ((row.length : Int) = 25)] hB ⟨h1, trivial⟩ ?_
  refine ae_then ?_
  refine aw_ret ?_
  refine ae_ret hB (Bv false) (by kernel_rfl) (.inl (by refine congrArg Bv ?_; unfold okRow; first | (rw [decide_eq_false (by omega)]; rfl) | (rw [anyN_not, decide_eq_true (by omega)]; simp))) rfl (fun _ => trivial)


-- impl.ValidPerceptron$1
theorem validPerc1_ok (row : List Int) : Con Try.prog 70 [slI false row] true (Bv (!(okRow row))) := by
  refine fn_ok (fn := Try.f70) (nt := 6) Try.func70 rfl rfl rfl rfl (by simp [taggedL, tagged, tagI]) fun B hB => ?_
  refine aw_lens (x := slI false row) 0 rfl (fun len_row => ?_)
  simp [LenOK, LenL, cI, fI, slI] at len_row
  refine aR [] [0] [] [slI false row] [] [] hB trivial ?_
  refine aR [(1, .call [(true, .any)] true (Bv (okRow row)))] [2] [] [Bv (!(okRow row))] [] [Con Try.prog 71 [slI false row] true (Bv (okRow row)) ∧ True] hB ⟨⟨(validRow_ok row), trivial⟩, trivial⟩ ?_
  refine aw_ret ?_
  refine ae_ret hB (Bv (!(okRow row))) (by kernel_rfl) (.inl rfl) rfl (fun _ => trivial)


-- impl.ValidPerceptron
theorem containsRow_ok_idx (s : List (List Int)) : Con Try.prog 92 [slLI false s, .fn 70 []] true (I (firstN s.length (fun j => (!(okRow (at_ s j)))))) := by
  refine fn_ok (fn := Try.f92) (nt := 19) Try.func92 rfl rfl rfl rfl (by simp [taggedL, tagged, tagLI]) fun B hB => ?_
  refine aw_lens (x := slLI false s) 0 rfl (fun len_s => ?_)
  simp [LenOK, LenL, cI, cLI, fI, fLI, slI, slLI] at len_s
  refine aR [] [0, 1] [] [slLI false s, .fn 70 []] [] [] hB trivial ?_
  refine aw_seq ?_
  refine aR [] [0, 1, 7, 8] [] [slLI false s, .fn 70 [], I (s.length : Int), I 0] [] [] hB trivial ?_
  refine aw_block ?_
  refine aw_loop (fun gn gσ => ∃ (t8 : Int), gn = ((s.length : Int) - t8).toNat ∧ (0 ≤ t8 ∧ t8 ≤ (s.length : Int)) ∧ (∀ j : Nat, (j : Int) < t8 → (!(okRow (at_ s j))) = false) ∧ gσ = mkS [(0, slLI false s), (1, .fn 70 []), (7, I (s.length : Int)), (8, I t8)] []) (((s.length : Int) - 0).toNat) ⟨0, rfl, (by omega), (by intro j hj; omega), rfl⟩ (fun gn gσ hI => ?_)
  obtain ⟨t8, rfl, hi0, hall0, rfl⟩ := hI
  refine aw_seq ?_
  by_cases h1 : t8 < (s.length : Int)
  ·have hi : t8.toNat < s.length := by omega
   refine aw_r [(0, .dec true)] [0, 1, 7, 8, 9] [] [slLI false s, .fn 70 [], I (s.length : Int), I t8, Bv true] [] [t8 < (s.length : Int)] hB ⟨h1, trivial⟩ ?_
   refine ae_then ?_
   refine aw_seq ?_
   refine aw_true rfl ?_
   refine aw_skip ?_
   refine ae_then ?_
   refine aw_seq ?_
   refine aw_block ?_
   refine aR [] [0, 1, 5, 7, 8] [] [slLI false s, .fn 70 [], I t8, I (s.length : Int), I t8] [] [] hB trivial ?_
   refine aw_seq ?_
   rcases Bool.eq_false_or_eq_true (!(okRow (at_ s t8.toNat))) with h2 | h2
   ·have hfin : firstN s.length (fun j => (!(okRow (at_ s j)))) = t8.toNat := firstN_hit hi h2 (fun j hj => hall0 j (by omega))
    refine aw_r [(5, .call [(true, .any)] true (Bv true))] [0, 1, 5, 7, 8, 16] [] [slLI false s, .fn 70 [], I t8, I (s.length : Int), I t8, Bv true] [] [(0 : Int) ≤ t8 ∧ t8 < (s.length : Int), Con Try.prog 70 [slI false (at_ s t8.toNat)] true (Bv true) ∧ True] hB ⟨⟨(by omega), (by omega)⟩, ⟨(con_bool h2 (validPerc1_ok (at_ s t8.toNat))), trivial⟩, trivial⟩ ?_
    refine ae_then ?_
    refine aw_true rfl ?_
    refine aR [] [4] [] [I t8] [] [] hB trivial ?_
    refine aw_ret ?_
    refine ae_ret_block (ae_ret_then (ae_ret_then (ae_ret_block (ae_ret_then ?_))))
    refine ae_ret hB (I t8) (by kernel_rfl) (.inl (by refine congrArg I ?_; first | (rw [hfin]; done) | (rw [hfin]; omega))) rfl (fun _ => trivial)
   refine aw_r [(5, .call [(true, .any)] true (Bv false))] [0, 1, 5, 7, 8, 16] [] [slLI false s, .fn 70 [], I t8, I (s.length : Int), I t8, Bv false] [] [(0 : Int) ≤ t8 ∧ t8 < (s.length : Int), Con Try.prog 70 [slI false (at_ s t8.toNat)] true (Bv false) ∧ True] hB ⟨⟨(by omega), (by omega)⟩, ⟨(con_bool h2 (validPerc1_ok (at_ s t8.toNat))), trivial⟩, trivial⟩ ?_
   refine ae_then ?_
   refine aw_false rfl ?_
   refine aw_skip ?_
   refine ae_block 1 ?_
   refine ae_then ?_
   refine aw_r [] [0, 1, 7, 8] [] [slLI false s, .fn 70 [], I (s.length : Int), I (t8 + 1)] [] [inR .i64 (t8 + 1)] hB ⟨(inR_i64 (by omega) (by omega)), trivial⟩ ?_
   exact ae_again _ (by omega) ⟨(t8 + 1), rfl, (by omega), (by intro j hj; by_cases ej : j = t8.toNat; (subst ej; first | assumption | rfl); exact hall0 j (by omega)), rfl⟩
  have hfin : firstN s.length (fun j => (!(okRow (at_ s j)))) = -1 := firstN_none (fun j hj => hall0 j (by omega))
  refine aw_r [(0, .dec false)] [0, 1, 7, 8, 9] [] [slLI false s, .fn 70 [], I (s.length : Int), I t8, Bv false] [] [¬ (t8 < (s.length : Int))] hB ⟨h1, trivial⟩ ?_
  refine ae_then ?_
  refine aw_seq ?_
  refine aw_false rfl ?_
  refine aw_exit ?_
  refine ae_exit_then ?_
  refine ae_exit_then ?_
  refine ae_exit_same ?_
  refine ae_then ?_
  refine aR [] [4] [] [I (-1)] [] [] hB trivial ?_
  refine aw_ret ?_
  refine ae_ret hB (I (-1)) (by kernel_rfl) (.inl (by refine congrArg I ?_; first | (rw [hfin]; done) | (rw [hfin]; omega))) rfl (fun _ => trivial)

theorem containsRow_ok (s : List (List Int)) : Con Try.prog 69 [slLI false s, .fn 70 []] true (Bv (anyN s.length (fun j => (!(okRow (at_ s j)))))) := by
  refine fn_ok (fn := Try.f69) (nt := 9) Try.func69 rfl rfl rfl rfl (by simp [taggedL, tagged, tagLI]) fun B hB => ?_
  refine aw_lens (x := slLI false s) 0 rfl (fun len_s => ?_)
  simp [LenOK, LenL, cI, cLI, fI, fLI, slI, slLI] at len_s
  refine aR [] [0, 1] [] [slLI false s, .fn 70 []] [] [] hB trivial ?_
  refine aR [(2, .call [(true, .any), (true, .any)] true (I (firstN s.length (fun j => (!(okRow (at_ s j)))))))] [4] [] [Bv (decide (0 ≤ (firstN s.length (fun j => (!(okRow (at_ s j)))))))] [] [Con Try.prog 92 [slLI false s, .fn 70 []] true (I (firstN s.length (fun j => (!(okRow (at_ s j)))))) ∧ True] hB ⟨⟨(containsRow_ok_idx s), trivial⟩, trivial⟩ ?_
  refine aw_ret ?_
  refine ae_ret hB (Bv (decide (0 ≤ (firstN s.length (fun j => (!(okRow (at_ s j)))))))) (by kernel_rfl) (.inl (by exact congrArg Bv (firstN_any _ _))) rfl (fun _ => trivial)

theorem ValidPerceptron_ok (p : Perceptron) (ok : ∀ y ∈ p.Labels, y.size ≤ 9223372036854775807) : Con Try.prog 34 [agPerceptron p] true (Bv (okPerc p)) := by
  refine fn_ok (fn := Try.f34) (nt := 21) Try.func34 rfl rfl rfl rfl (by simp [taggedL, tagged, tagLI, tagS]) fun B hB => ?_
  refine aw_lens (x := agPerceptron p) 0 rfl (fun len_p => ?_)
  simp [LenOK, LenL, cI, cLI, cS, fI, fLI, fS, slI, slLI, slS] at len_p
  refine aR [(0, .new 1)] [1] [1] [.ref 1 0] [some (bxPerceptron p)] [] hB trivial ?_
  refine aw_seq ?_
  rcases Bool.eq_false_or_eq_true (okLabels p.Labels) with h1 | h1
  ·by_cases h2 : (p.Weights.length : Int) = (p.Labels.length : Int)
   ·refine aw_r [(2, .call [(true, .any)] true (Bv true)), (10, .dec true), (15, .call [(true, .any), (true, .any)] true (Bv (anyN p.Weights.length (fun j => (!(okRow (at_ p.Weights j)))))))] [2] [] [Bv (!(anyN p.Weights.length (fun j => (!(okRow (at_ p.Weights j))))))] [] [Con Try.prog 48 [slS false p.Labels] true (Bv true) ∧ True, (p.Weights.length : Int) = (p.Labels.length : Int), Con Try.prog 69 [slLI false p.Weights, .fn 70 []] true (Bv (anyN p.Weights.length (fun j => (!(okRow (at_ p.Weights j)))))) ∧ True] hB ⟨⟨(con_bool h1 (validClasses_ok p.Labels ok)), trivial⟩, h2, ⟨(containsRow_ok p.Weights), trivial⟩, trivial⟩ ?_
    refine ae_then ?_
    refine aw_ret ?_
    refine ae_ret hB (Bv (!(anyN p.Weights.length (fun j => (!(okRow (at_ p.Weights j))))))) (by kernel_rfl) (.inl (by refine congrArg Bv ?_; unfold okPerc okRows; first | (rw [show okLabels p.Labels = false from by assumption]; rfl) | (rw [show okLabels p.Labels = true from by assumption, decide_eq_false (by omega)]; rfl) | (rw [show okLabels p.Labels = true from by assumption, decide_eq_true (by omega), anyN_not]; simp))) rfl (fun _ => trivial)
   refine aw_r [(2, .call [(true, .any)] true (Bv true)), (10, .dec false)] [2] [] [Bv false] [] [Con Try.prog 48 [slS false p.Labels] true (Bv true) ∧ True, ¬ ((p.Weights.length : Int) = (p.Labels.length : Int))] hB ⟨⟨(con_bool h1 (validClasses_ok p.Labels ok)), trivial⟩, h2, trivial⟩ ?_
   refine ae_then ?_
   refine aw_ret ?_
   refine ae_ret hB (Bv false) (by kernel_rfl) (.inl (by refine congrArg Bv ?_; unfold okPerc okRows; first | (rw [show okLabels p.Labels = false from by assumption]; rfl) | (rw [show okLabels p.Labels = true from by assumption, decide_eq_false (by omega)]; rfl) | (rw [show okLabels p.Labels = true from by assumption, decide_eq_true (by omega), anyN_not]; simp))) rfl (fun _ => trivial)
  refine aw_r [(2, .call [(true, .any)] true (Bv false))] [2] [] [Bv false] [] [Con Try.prog 48 [slS false p.Labels] true (Bv false) ∧ True] hB ⟨⟨(con_bool h1 (validClasses_ok p.Labels ok)), trivial⟩, trivial⟩ ?_
  refine ae_then ?_
  refine aw_ret ?_
  refine ae_ret hB (Bv false) (by kernel_rfl) (.inl (by refine congrArg Bv ?_; unfold okPerc okRows; first | (rw [show okLabels p.Labels = false from by assumption]; rfl) | (rw [show okLabels p.Labels = true from by assumption, decide_eq_false (by omega)]; rfl) | (rw [show okLabels p.Labels = true from by assumption, decide_eq_true (by omega), anyN_not]; simp))) rfl (fun _ => trivial)


-- impl.ValidFeat
theorem ValidFeat_ok (f : Feat) : Con Try.prog 97 [agFeat f] true (Bv (okF f)) := by
  refine fn_ok (fn := Try.f97) (nt := 16) Try.func97 rfl rfl rfl rfl (by simp [taggedL, tagged]) fun B hB => ?_
  refine aR [(0, .new 1)] [1] [1] [.ref 1 0] [some (bxFeat f)] [] hB trivial ?_
  refine aw_seq ?_
  rcases Bool.eq_false_or_eq_true (inB f.X 0 255) with h1 | h1
  ·rcases Bool.eq_false_or_eq_true (inB f.Y 0 255) with h2 | h2
   ·refine aw_r [(2, .call [(true, .any), (true, .any), (true, .any)] true (Bv true)), (6, .call [(true, .any), (true, .any), (true, .any)] true (Bv true)), (11, .call [(true, .any), (true, .any), (true, .any)] true (Bv (inB f.D 0 7)))] [2] [] [Bv (inB f.D 0 7)] [] [Con Try.prog 60 [I f.X, I 0, I 255] true (Bv true) ∧ True, Con Try.prog 60 [I f.Y, I 0, I 255] true (Bv true) ∧ True, Con Try.prog 60 [I f.D, I 0, I 7] true (Bv (inB f.D 0 7)) ∧ True] hB ⟨⟨(con_bool h1 (within_ok f.X 0 255)), trivial⟩, ⟨(con_bool h2 (within_ok f.Y 0 255)), trivial⟩, ⟨(within_ok f.D 0 7), trivial⟩, trivial⟩ ?_
    refine ae_then ?_
    refine aw_ret ?_
    refine ae_ret hB (Bv (inB f.D 0 7)) (by kernel_rfl) (.inl (by first | rfl | (refine congrArg Bv ?_; simp [okF, *]; done) | (refine congrArg Bv ?_; simp [okF, *]; omega) | (refine congrArg Bv ?_; simp_all [okF]; done) | (refine congrArg Bv ?_; simp_all [okF]; omega))) rfl (fun _ => trivial)
   refine aw_r [(2, .call [(true, .any), (true, .any), (true, .any)] true (Bv true)), (6, .call [(true, .any), (true, .any), (true, .any)] true (Bv false))] [2] [] [Bv false] [] [Con Try.prog 60 [I f.X, I 0, I 255] true (Bv true) ∧ True, Con Try.prog 60 [I f.Y, I 0, I 255] true (Bv false) ∧ True] hB ⟨⟨(con_bool h1 (within_ok f.X 0 255)), trivial⟩, ⟨(con_bool h2 (within_ok f.Y 0 255)), trivial⟩, trivial⟩ ?_
   refine ae_then ?_
   refine aw_ret ?_
   refine ae_ret hB (Bv false) (by kernel_rfl) (.inl (by first | rfl | (refine congrArg Bv ?_; simp [okF, *]; done) | (refine congrArg Bv ?_; simp [okF, *]; omega) | (refine congrArg Bv ?_; simp_all [okF]; done) | (refine congrArg Bv ?_; simp_all [okF]; omega))) rfl (fun _ => trivial)
  refine aw_r [(2, .call [(true, .any), (true, .any), (true, .any)] true (Bv false))] [2] [] [Bv false] [] [Con Try.prog 60 [I f.X, I 0, I 255] true (Bv false) ∧ True] hB ⟨⟨(con_bool h1 (within_ok f.X 0 255)), trivial⟩, trivial⟩ ?_
  refine ae_then ?_
  refine aw_ret ?_
  refine ae_ret hB (Bv false) (by kernel_rfl) (.inl (by first | rfl | (refine congrArg Bv ?_; simp [okF, *]; done) | (refine congrArg Bv ?_; simp [okF, *]; omega) | (refine congrArg Bv ?_; simp_all [okF]; done) | (refine congrArg Bv ?_; simp_all [okF]; omega))) rfl (fun _ => trivial)


-- impl.areFeats$1
theorem areFeats1_ok (f : Feat) : Con Try.prog 96 [agFeat f] true (Bv (!(okF f))) := by
  refine fn_ok (fn := Try.f96) (nt := 6) Try.func96 rfl rfl rfl rfl (by simp [taggedL, tagged]) fun B hB => ?_
  refine aR [(0, .new 1)] [1] [1] [.ref 1 0] [some (bxFeat f)] [] hB trivial ?_
  refine aR [(1, .call [(true, .any)] true (Bv (okF f)))] [2] [] [Bv (!(okF f))] [] [Con Try.prog 97 [agFeat f] true (Bv (okF f)) ∧ True] hB ⟨⟨(ValidFeat_ok f), trivial⟩, trivial⟩ ?_
  refine aw_ret ?_
  refine ae_ret hB (Bv (!(okF f))) (by kernel_rfl) (.inl rfl) rfl (fun _ => trivial)


-- impl.areFeats
theorem containsFeat_ok_idx (s : List Feat) : Con Try.prog 106 [slFeat false s, .fn 96 []] true (I (firstN s.length (fun j => (!(okF (at_ s j)))))) := by
  refine fn_ok (fn := Try.f106) (nt := 19) Try.func106 rfl rfl rfl rfl (by simp [taggedL, tagged, tagFeat]) fun B hB => ?_
  refine aw_lens (x := slFeat false s) 0 rfl (fun len_s => ?_)
  simp [LenOK, LenL, cFeat, fFeat, slFeat] at len_s
  refine aR [] [0, 1] [] [slFeat false s, .fn 96 []] [] [] hB trivial ?_
  refine aw_seq ?_
  refine aR [] [0, 1, 7, 8] [] [slFeat false s, .fn 96 [], I (s.length : Int), I 0] [] [] hB trivial ?_
  refine aw_block ?_
  refine aw_loop (fun gn gσ => ∃ (t8 : Int), gn = ((s.length : Int) - t8).toNat ∧ (0 ≤ t8 ∧ t8 ≤ (s.length : Int)) ∧ (∀ j : Nat, (j : Int) < t8 → (!(okF (at_ s j))) = false) ∧ gσ = mkS [(0, slFeat false s), (1, .fn 96 []), (7, I (s.length : Int)), (8, I t8)] []) (((s.length : Int) - 0).toNat) ⟨0, rfl, (by omega), (by intro j hj; omega), rfl⟩ (fun gn gσ hI => ?_)
  obtain ⟨t8, rfl, hi0, hall0, rfl⟩ := hI
  refine aw_seq ?_
  by_cases h1 : t8 < (s.length : Int)
  ·have hi : t8.toNat < s.length := by omega
   refine aw_r [(0, .dec true)] [0, 1, 7, 8, 9] [] [slFeat false s, .fn 96 [], I (s.length : Int), I t8, Bv true] [] [t8 < (s.length : Int)] hB ⟨h1, trivial⟩ ?_
   refine ae_then ?_
   refine aw_seq ?_
   refine aw_true rfl ?_
   refine aw_skip ?_
   refine ae_then ?_
   refine aw_seq ?_
   refine aw_block ?_
   refine aR [] [0, 1, 5, 7, 8] [] [slFeat false s, .fn 96 [], I t8, I (s.length : Int), I t8] [] [] hB trivial ?_
   refine aw_seq ?_
   rcases Bool.eq_false_or_eq_true (!(okF (at_ s t8.toNat))) with h2 | h2
   ·have hfin : firstN s.length (fun j => (!(okF (at_ s j)))) = t8.toNat := firstN_hit hi h2 (fun j hj => hall0 j (by omega))
    refine aw_r [(5, .call [(true, .any)] true (Bv true))] [0, 1, 5, 7, 8, 16] [] [slFeat false s, .fn 96 [], I t8, I (s.length : Int), I t8, Bv true] [] [(0 : Int) ≤ t8 ∧ t8 < (s.length : Int), Con Try.prog 96 [agFeat (at_ s t8.toNat)] true (Bv true) ∧ True] hB ⟨⟨(by omega), (by omega)⟩, ⟨(con_bool h2 (areFeats1_ok (at_ s t8.toNat))), trivial⟩, trivial⟩ ?_
    refine ae_then ?_
    refine aw_true rfl ?_
    refine aR [] [4] [] [I t8] [] [] hB trivial ?_
    refine aw_ret ?_
    refine ae_ret_block (ae_ret_then (ae_ret_then (ae_ret_block (ae_ret_then ?_))))
    refine ae_ret hB (I t8) (by kernel_rfl) (.inl (by refine congrArg I ?_; first | (rw [hfin]; done) | (rw [hfin]; omega))) rfl (fun _ => trivial)
   refine aw_r [(5, .call [(true, .any)] true (Bv false))] [0, 1, 5, 7, 8, 16] [] [slFeat false s, .fn 96 [], I t8, I (s.length : Int), I t8, Bv false] [] [(0 : Int) ≤ t8 ∧ t8 < (s.length : Int), Con Try.prog 96 [agFeat (at_ s t8.toNat)] true (Bv false) ∧ True] hB ⟨⟨(by omega), (by omega)⟩, ⟨(con_bool h2 (areFeats1_ok (at_ s t8.toNat))), trivial⟩, trivial⟩ ?_
   refine ae_then ?_
   refine aw_false rfl ?_
   refine aw_skip ?_
   refine ae_block 1 ?_
   refine ae_then ?_
   refine aw_r [] [0, 1, 7, 8] [] [slFeat false s, .fn 96 [], I (s.length : Int), I (t8 + 1)] [] [inR .i64 (t8 + 1)] hB ⟨(inR_i64 (by omega) (by omega)), trivial⟩ ?_
   exact ae_again _ (by omega) ⟨(t8 + 1), rfl, (by omega), (by intro j hj; by_cases ej : j = t8.toNat; (subst ej; first | assumption | rfl); exact hall0 j (by omega)), rfl⟩
  have hfin : firstN s.length (fun j => (!(okF (at_ s j)))) = -1 := firstN_none (fun j hj => hall0 j (by omega))
  refine aw_r [(0, .dec false)] [0, 1, 7, 8, 9] [] [slFeat false s, .fn 96 [], I (s.length : Int), I t8, Bv false] [] [¬ (t8 < (s.length : Int))] hB ⟨h1, trivial⟩ ?_
  refine ae_then ?_
  refine aw_seq ?_
  refine aw_false rfl ?_
  refine aw_exit ?_
  refine ae_exit_then ?_
  refine ae_exit_then ?_
  refine ae_exit_same ?_
  refine ae_then ?_
  refine aR [] [4] [] [I (-1)] [] [] hB trivial ?_
  refine aw_ret ?_
  refine ae_ret hB (I (-1)) (by kernel_rfl) (.inl (by refine congrArg I ?_; first | (rw [hfin]; done) | (rw [hfin]; omega))) rfl (fun _ => trivial)

theorem containsFeat_ok (s : List Feat) : Con Try.prog 95 [slFeat false s, .fn 96 []] true (Bv (anyN s.length (fun j => (!(okF (at_ s j)))))) := by
  refine fn_ok (fn := Try.f95) (nt := 9) Try.func95 rfl rfl rfl rfl (by simp [taggedL, tagged, tagFeat]) fun B hB => ?_
  refine aw_lens (x := slFeat false s) 0 rfl (fun len_s => ?_)
  simp [LenOK, LenL, cFeat, fFeat, slFeat] at len_s
  refine aR [] [0, 1] [] [slFeat false s, .fn 96 []] [] [] hB trivial ?_
  refine aR [(2, .call [(true, .any), (true, .any)] true (I (firstN s.length (fun j => (!(okF (at_ s j)))))))] [4] [] [Bv (decide (0 ≤ (firstN s.length (fun j => (!(okF (at_ s j)))))))] [] [Con Try.prog 106 [slFeat false s, .fn 96 []] true (I (firstN s.length (fun j => (!(okF (at_ s j)))))) ∧ True] hB ⟨⟨(containsFeat_ok_idx s), trivial⟩, trivial⟩ ?_
  refine aw_ret ?_
  refine ae_ret hB (Bv (decide (0 ≤ (firstN s.length (fun j => (!(okF (at_ s j)))))))) (by kernel_rfl) (.inl (by exact congrArg Bv (firstN_any _ _))) rfl (fun _ => trivial)

theorem areFeats_ok (list : List Feat) (most : Int) : Con Try.prog 72 [slFeat false list, I most] true (Bv (okFeats list most)) := by
  refine fn_ok (fn := Try.f72) (nt := 19) Try.func72 rfl rfl rfl rfl (by simp [taggedL, tagged, tagFeat]) fun B hB => ?_
  refine aw_lens (x := slFeat false list) 0 rfl (fun len_list => ?_)
  simp [LenOK, LenL, cFeat, fFeat, slFeat] at len_list
  refine aR [] [0, 1] [] [slFeat false list, I most] [] [] hB trivial ?_
  refine aw_seq ?_
  by_cases h1 : 1 ≤ (list.length : Int)
  ·by_cases h2 : (list.length : Int) ≤ most
   ·refine aw_r [(2, .dec true), (7, .dec true), (11, .call [(true, .any), (true, .any)] true (Bv (anyN list.length (fun j => (!(okF (at_ list j)))))))] [4] [] [Bv (!(anyN list.length (fun j => (!(okF (at_ list j))))))] [] [1 ≤ (list.length : Int), (list.length : Int) ≤ most, Con Try.prog 95 [slFeat false list, .fn 96 []] true (Bv (anyN list.length (fun j => (!(okF (at_ list j)))))) ∧ True] hB ⟨h1, h2, ⟨(containsFeat_ok list), trivial⟩, trivial⟩ ?_
    refine ae_then ?_
    refine aw_ret ?_
    refine ae_ret hB (Bv (!(anyN list.length (fun j => (!(okF (at_ list j))))))) (by kernel_rfl) (.inl (by first | rfl | (refine congrArg Bv ?_; simp [okFeats, anyN_not, *]; done) | (refine congrArg Bv ?_; simp [okFeats, anyN_not, *]; omega) | (refine congrArg Bv ?_; simp_all [okFeats, anyN_not]; done) | (refine congrArg Bv ?_; simp_all [okFeats, anyN_not]; omega))) rfl (fun _ => trivial)
   refine aw_r [(2, .dec true), (7, .dec false)] [4] [] [Bv false] [] [1 ≤ (list.length : Int), ¬ ((list.length : Int) ≤ most)] hB ⟨h1, h2, trivial⟩ ?_
   refine ae_then ?_
   refine aw_ret ?_
   refine ae_ret hB (Bv false) (by kernel_rfl) (.inl (by first | rfl | (refine congrArg Bv ?_; simp [okFeats, anyN_not, *]; done) | (refine congrArg Bv ?_; simp [okFeats, anyN_not, *]; omega) | (refine congrArg Bv ?_; simp_all [okFeats, anyN_not]; done) | (refine congrArg Bv ?_; simp_all [okFeats, anyN_not]; omega))) rfl (fun _ => trivial)
  refine aw_r [(2, .dec false)] [4] [] [Bv false] [] [¬ (1 ≤ (list.length : Int))] hB ⟨h1, trivial⟩ ?_
  refine ae_then ?_
  refine aw_ret ?_
  refine ae_ret hB (Bv false) (by kernel_rfl) (.inl (by first | rfl | (refine congrArg Bv ?_; simp [okFeats, anyN_not, *]; done) | (refine congrArg Bv ?_; simp [okFeats, anyN_not, *]; omega) | (refine congrArg Bv ?_; simp_all [okFeats, anyN_not]; done) | (refine congrArg Bv ?_; simp_all [okFeats, anyN_not]; omega))) rfl (fun _ => trivial)


-- impl.ValidFeats
theorem ValidFeats_ok (list : List Feat) : Con Try.prog 35 [slFeat false list] true (Bv (okFeats list 384)) := by
  refine fn_ok (fn := Try.f35) (nt := 5) Try.func35 rfl rfl rfl rfl (by simp [taggedL, tagged, tagFeat]) fun B hB => ?_
  refine aw_lens (x := slFeat false list) 0 rfl (fun len_list => ?_)
  simp [LenOK, LenL, cFeat, fFeat, slFeat] at len_list
  refine aR [] [0] [] [slFeat false list] [] [] hB trivial ?_
  refine aR [(1, .call [(true, .any), (true, .any)] true (Bv (okFeats list 384)))] [2] [] [Bv (okFeats list 384)] [] [Con Try.prog 72 [slFeat false list, I 384] true (Bv (okFeats list 384)) ∧ True] hB ⟨⟨(areFeats_ok list 384), trivial⟩, trivial⟩ ?_
  refine aw_ret ?_
  refine ae_ret hB (Bv (okFeats list 384)) (by kernel_rfl) (.inl rfl) rfl (fun _ => trivial)


theorem scoR_ok {p : Perceptron} {fs : List Feat} {v : List Int} {c : Int} (e : (v, c) = scoR p fs) (h : c = 0) : okPerc p = true ∧ okFeats fs 384 = true ∧ v = scR p.Weights (inpR fs) := by
  subst h
  unfold scoR at e
  split at e
  · rename_i h; exact ⟨h.1, h.2, congrArg Prod.fst e⟩
  · exact absurd (show (0 : Int) = 1 from congrArg Prod.snd e) (by decide)
theorem clsR_no {p : Perceptron} {fs : List Feat} {v : List Int} {c : Int} (e : (v, c) = scoR p fs) (h : ¬ c = 0) : clsR p fs = ((⟨#[]⟩, 0), c) := by
  unfold scoR at e
  unfold clsR
  split at e
  · exact absurd (congrArg Prod.snd e) h
  · rename_i q; rw [if_neg q, show c = 1 from congrArg Prod.snd e]
theorem mg_one {l : List Int} (h1 : 1 ≤ l.length) (h : ¬ 0 < ((l.take (bstI l).toNat ++ l.drop (bstI l + 1).toNat).length : Int)) : mgI l = 0 := by
  have hb := bstI_in h1
  refine mg_none ?_
  rw [List.length_append, List.length_take, List.length_drop] at h
  omega
theorem mg_two {l : List Int} {M : Int} (h1 : 1 ≤ l.length) (h : 0 < ((l.take (bstI l).toNat ++ l.drop (bstI l + 1).toNat).length : Int)) (hm : isMx (l.take (bstI l).toNat ++ l.drop (bstI l + 1).toNat) (l.take (bstI l).toNat ++ l.drop (bstI l + 1).toNat).length M) : at_ l (bstI l).toNat - M = mgI l := by
  have hb := bstI_in h1
  have e : (bstI l + 1).toNat = (bstI l).toNat + 1 := by omega
  rw [e] at h hm
  refine mg_mx ?_ hm
  rw [List.length_append, List.length_take, List.length_drop] at h
  omega
theorem mx_bd {l : List Int} {k m A B : Int} (h : isMx l k m) (hk : k ≤ (l.length : Int)) (hl : ∀ x ∈ l, A ≤ x ∧ x ≤ B) : A ≤ m ∧ m ≤ B := by
  obtain ⟨⟨j, h1, h2⟩, _⟩ := h
  have := hl _ (at_mem (xs := l) (i := j) (by omega))
  omega
theorem sc_bd {p : Perceptron} {fs : List Feat} (h1 : okPerc p = true) (h2 : okFeats fs 384 = true) : ∀ x ∈ scR p.Weights (inpR fs), -12800000000 ≤ x ∧ x ≤ 12800000000 := fun x hx => by
  unfold scR at hx
  rw [List.mem_map] at hx
  obtain ⟨r, hr, rfl⟩ := hx
  obtain ⟨j, hj, e⟩ := List.getElem_of_mem hr
  have hq := okRows_at (okPerc_iff.1 h1).2.2 hj
  rw [at_eq hj, e] at hq
  have := scT_bd hq.2 (inpR_bd (okFeats_n h2).1) 25 (Nat.le_refl _)
  omega
theorem rest_mem {l : List Int} {a b : Nat} {x : Int} (h : x ∈ l.take a ++ l.drop b) : x ∈ l := by
  rcases List.mem_append.1 h with h | h
  · exact List.mem_of_mem_take h
  · exact List.mem_of_mem_drop h

/-- The code of a perceptron and samples. -/
def okS (s : Sample) : Bool := okLabel s.Label && okFeats s.Feats 384
def cdR (p : Perceptron) (list : List Sample) : Int := if okPerc p = true then (if allN list.length (fun j => okS (at_ list j)) = true then (if allN list.length (fun j => decide (0 ≤ fndL p.Labels (at_ list j).Label)) = true then (if 40 < (list.length : Int) then 2 else 0) else 3) else 1) else 1
theorem fndL_mem {ls : List ByteArray} {l : ByteArray} (h : 0 ≤ fndL ls l) : l ∈ ls := by
  unfold fndL at h
  rcases firstN_cases ls.length (fun j => decide (at_ ls j = l)) with ⟨h1, _⟩ | ⟨k, _, h2, h3, _⟩
  · omega
  · rw [← of_decide_eq_true h3]; exact at_mem h2
theorem cd_ok {p : Perceptron} {list : List Sample} (h : cdR p list = 0) : okPerc p = true ∧ (∀ j, j < list.length → okS (at_ list j) = true ∧ (at_ list j).Label ∈ p.Labels ∧ okFeats (at_ list j).Feats 384 = true) ∧ list.length ≤ 40 := by
  unfold cdR at h
  split at h
  · rename_i h1
    split at h
    · rename_i h2
      split at h
      · rename_i h3
        split at h
        · cases h
        · refine ⟨h1, fun j hj => ?_, by omega⟩
          have a := allN_get h2 hj
          have b := allN_get h3 hj
          refine ⟨a, fndL_mem (of_decide_eq_true b), ?_⟩
          unfold okS at a
          rw [Bool.and_eq_true] at a; exact a.2
      · cases h
    · cases h
  · cases h
theorem cd_of {p : Perceptron} {list : List Sample} (h1 : okPerc p = true) (h2 : ∀ j, j < list.length → okS (at_ list j) = true ∧ (at_ list j).Label ∈ p.Labels) (h3 : list.length ≤ 40) : cdR p list = 0 := by
  unfold cdR
  rw [if_pos h1, if_pos (allN_at fun j hj => (h2 j hj).1), if_pos (allN_at fun j hj => decide_eq_true (fndL_in (h2 j hj).2).1), if_neg (by omega)]
theorem cd_a {p : Perceptron} {list : List Sample} (h : okPerc p = false) : cdR p list = 1 := by unfold cdR; rw [h]; rfl
theorem cd_b {p : Perceptron} {list : List Sample} (h1 : okPerc p = true) (h : allN list.length (fun j => okS (at_ list j)) = false) : cdR p list = 1 := by unfold cdR; rw [if_pos h1, h]; rfl
theorem cd_c {p : Perceptron} {list : List Sample} (h1 : okPerc p = true) (h2 : allN list.length (fun j => okS (at_ list j)) = true) (h : allN list.length (fun j => decide (0 ≤ fndL p.Labels (at_ list j).Label)) = false) : cdR p list = 3 := by unfold cdR; rw [if_pos h1, if_pos h2, h]; rfl
theorem cd_d {p : Perceptron} {list : List Sample} (h1 : okPerc p = true) (h2 : allN list.length (fun j => okS (at_ list j)) = true) (h3 : allN list.length (fun j => decide (0 ≤ fndL p.Labels (at_ list j).Label)) = true) (h : 40 < (list.length : Int)) : cdR p list = 2 := by unfold cdR; rw [if_pos h1, if_pos h2, if_pos h3, if_pos h]
theorem cd_e {p : Perceptron} {list : List Sample} (h1 : okPerc p = true) (h2 : allN list.length (fun j => okS (at_ list j)) = true) (h3 : allN list.length (fun j => decide (0 ≤ fndL p.Labels (at_ list j).Label)) = true) (h : ¬ 40 < (list.length : Int)) : cdR p list = 0 := by unfold cdR; rw [if_pos h1, if_pos h2, if_pos h3, if_neg h]
/-- Weights after a sample, whether or not they are valid. -/
def trnR (p : Perceptron) (s : Sample) : List (List Int) × Bool := if bstI (scR p.Weights (inpR s.Feats)) = fndL p.Labels s.Label then (p.Weights, false) else (updW p.Weights (inpR s.Feats) (fndL p.Labels s.Label).toNat (bstI (scR p.Weights (inpR s.Feats))).toNat 25, true)
theorem trn_a {p : Perceptron} {s : Sample} (h : bstI (scR p.Weights (inpR s.Feats)) = fndL p.Labels s.Label) : trnR p s = (p.Weights, false) := if_pos h
theorem trn_b {p : Perceptron} {s : Sample} (h : ¬ bstI (scR p.Weights (inpR s.Feats)) = fndL p.Labels s.Label) : trnR p s = (updW p.Weights (inpR s.Feats) (fndL p.Labels s.Label).toNat (bstI (scR p.Weights (inpR s.Feats))).toNat 25, true) := if_neg h
theorem trn_step {p : Perceptron} {s : Sample} {W : List (List Int)} {ch : Bool} (hp : okPerc p = true) (e : (W, ch) = trnR p s) : (okPerc ⟨p.Labels, W⟩ = true → stepR p s = (⟨p.Labels, W⟩, ch, 0)) ∧ (okPerc ⟨p.Labels, W⟩ = false → stepR p s = (⟨[], []⟩, false, 5)) := by
  by_cases h : bstI (scR p.Weights (inpR s.Feats)) = fndL p.Labels s.Label
  · rw [trn_a h, Prod.mk.injEq] at e
    obtain ⟨rfl, rfl⟩ := e
    refine ⟨fun _ => by rw [step_a h], fun q => ?_⟩
    rw [show (⟨p.Labels, p.Weights⟩ : Perceptron) = p from rfl, hp] at q; cases q
  · rw [trn_b h, Prod.mk.injEq] at e
    obtain ⟨e1, e2⟩ := e
    subst e2
    have h3 := step_b h
    have h4 := step_c h
    rw [← e1] at h3 h4
    exact ⟨h3, fun q => h4 (by rw [q]; exact Bool.false_ne_true)⟩
def tepR (p : Perceptron) (list : List Sample) : Perceptron × Int × Int := if cdR p list = 0 then epR p list list.length else (⟨[], []⟩, 0, cdR p list)
theorem tep_yes {p : Perceptron} {list : List Sample} (h : cdR p list = 0) : tepR p list = epR p list list.length := if_pos h
theorem tep_no {p : Perceptron} {list : List Sample} (h : ¬ cdR p list = 0) : tepR p list = (⟨[], []⟩, 0, cdR p list) := if_neg h
theorem epR_bad {p : Perceptron} {list : List Sample} : ∀ k, ¬ (epR p list k).2.2 = 0 → epR p list k = (⟨[], []⟩, 0, (epR p list k).2.2)
  | 0, h => absurd rfl h
  | k + 1, h => by
    rw [epR] at h ⊢
    by_cases h1 : (epR p list k).2.2 = 0
    · rw [if_pos h1] at h ⊢
      by_cases h2 : (stepR (epR p list k).1 (at_ list k)).2.2 = 0
      · rw [if_pos h2] at h; exact absurd rfl h
      · rw [if_neg h2]
    · rw [if_neg h1]; exact epR_bad k h1
/-- The samples that are classified wrong. -/
def misL (p : Perceptron) (list : List Sample) : Nat → List Int
  | 0 => []
  | k + 1 => if at_ p.Labels (bstI (scR p.Weights (inpR (at_ list k).Feats))).toNat = (at_ list k).Label then misL p list k else misL p list k ++ [(k : Int)]
theorem misL_1 {p : Perceptron} {list : List Sample} {k : Int} (h : 0 ≤ k) : misL p list (k + 1).toNat = if at_ p.Labels (bstI (scR p.Weights (inpR (at_ list k.toNat).Feats))).toNat = (at_ list k.toNat).Label then misL p list k.toNat else misL p list k.toNat ++ [k] := by
  have e : (k + 1).toNat = k.toNat + 1 := by omega
  have e2 : ((k.toNat : Nat) : Int) = k := by omega
  rw [e, misL, e2]
theorem misL_nil {p : Perceptron} {list : List Sample} : ∀ k, misL p list k = [] ↔ ∀ j, j < k → at_ p.Labels (bstI (scR p.Weights (inpR (at_ list j).Feats))).toNat = (at_ list j).Label
  | 0 => ⟨fun _ j hj => absurd hj (Nat.not_lt_zero _), fun _ => rfl⟩
  | k + 1 => by
    rw [misL]
    have ih := misL_nil (p := p) (list := list) k
    constructor
    · intro h j hj
      split at h
      · rename_i q
        by_cases e : j = k
        · subst e; exact q
        · exact ih.1 h j (by omega)
      · simp at h
    · intro h
      rw [if_pos (h k (by omega))]
      exact ih.2 fun j hj => h j (by omega)
def misR (p : Perceptron) (list : List Sample) : List Int × Int := if cdR p list = 0 then (misL p list list.length, 0) else ([], cdR p list)
theorem mis_yes {p : Perceptron} {list : List Sample} (h : cdR p list = 0) : misR p list = (misL p list list.length, 0) := if_pos h
theorem mis_no {p : Perceptron} {list : List Sample} (h : ¬ cdR p list = 0) : misR p list = ([], cdR p list) := if_neg h
theorem lab_win {p : Perceptron} {l : ByteArray} {b : Int} (hp : okPerc p = true) (hl : l ∈ p.Labels) (hb : 0 ≤ b ∧ b < (p.Labels.length : Int)) : at_ p.Labels b.toNat = l ↔ b = fndL p.Labels l := by
  have hpw := (okLabels_pw (okPerc_iff.1 hp).1).2
  rw [List.pairwise_iff_getElem] at hpw
  have hf := fndL_in hl
  have hat : at_ p.Labels (fndL p.Labels l).toNat = l := by
    unfold fndL
    rcases firstN_cases p.Labels.length (fun j => decide (at_ p.Labels j = l)) with ⟨h1, _⟩ | ⟨k, h1, h2, h3, _⟩
    · unfold fndL at hf; omega
    · rw [h1]; exact of_decide_eq_true h3
  constructor
  · intro h
    apply Classical.byContradiction
    intro hn
    rcases Int.lt_or_gt_of_ne hn with q | q
    · have := hpw b.toNat (fndL p.Labels l).toNat (by omega) (by omega) (by omega)
      rw [← at_eq, ← at_eq, h, hat, sl_irr] at this; cases this
    · have := hpw (fndL p.Labels l).toNat b.toNat (by omega) (by omega) (by omega)
      rw [← at_eq, ← at_eq, h, hat, sl_irr] at this; cases this
  · intro h; rw [h]; exact hat
theorem step_n {q : Perceptron} {s : Sample} (hs : (stepR q s).2.2 = 0) : (stepR q s).2.1 = false ↔ bstI (scR q.Weights (inpR s.Feats)) = fndL q.Labels s.Label := by
  by_cases h1 : bstI (scR q.Weights (inpR s.Feats)) = fndL q.Labels s.Label
  · rw [step_a h1]; exact ⟨fun _ => h1, fun _ => rfl⟩
  · by_cases h2 : okPerc ⟨q.Labels, updW q.Weights (inpR s.Feats) (fndL q.Labels s.Label).toNat (bstI (scR q.Weights (inpR s.Feats))).toNat 25⟩ = true
    · rw [step_b h1 h2]; exact ⟨fun z => absurd (show true = false from z) (by decide), fun z => absurd z h1⟩
    · rw [step_c h1 h2] at hs; cases hs
theorem ep_zero {p : Perceptron} {list : List Sample} : ∀ k, (epR p list k).2.2 = 0 → 0 ≤ (epR p list k).2.1 ∧ ((epR p list k).2.1 = 0 → (epR p list k).1 = p ∧ ∀ j, j < k → bstI (scR p.Weights (inpR (at_ list j).Feats)) = fndL p.Labels (at_ list j).Label)
  | 0, _ => ⟨Int.le_refl _, fun _ => ⟨rfl, fun j hj => absurd hj (Nat.not_lt_zero _)⟩⟩
  | k + 1, h => by
    rw [epR] at h ⊢
    by_cases h1 : (epR p list k).2.2 = 0
    · rw [if_pos h1] at h ⊢
      by_cases h2 : (stepR (epR p list k).1 (at_ list k)).2.2 = 0
      · rw [if_pos h2] at h ⊢
        obtain ⟨a, b⟩ := ep_zero k h1
        cases hc : (stepR (epR p list k).1 (at_ list k)).2.1 with
        | true =>
          refine ⟨by show 0 ≤ (epR p list k).2.1 + (if true = true then 1 else 0); rw [if_pos rfl]; omega, fun z => ?_⟩
          have z : (epR p list k).2.1 + (if true = true then 1 else 0) = 0 := z
          rw [if_pos rfl] at z; omega
        | false =>
          refine ⟨by show 0 ≤ (epR p list k).2.1 + (if false = true then 1 else 0); rw [if_neg (by decide)]; omega, fun z => ?_⟩
          have z : (epR p list k).2.1 + (if false = true then 1 else 0) = 0 := z
          rw [if_neg (by decide)] at z
          obtain ⟨c, d⟩ := b (by omega)
          have e := (step_n h2).1 hc
          refine ⟨?_, fun j hj => ?_⟩
          · show (stepR (epR p list k).1 (at_ list k)).1 = p
            rw [step_a e]; exact c
          · by_cases ej : j = k
            · subst ej; rw [c] at e; exact e
            · exact d j (by omega)
      · rw [if_neg h2] at h; exact absurd h h2
    · rw [if_neg h1] at h; exact absurd h h1
theorem ep_all {p : Perceptron} {list : List Sample} : ∀ k, (∀ j, j < k → bstI (scR p.Weights (inpR (at_ list j).Feats)) = fndL p.Labels (at_ list j).Label) → epR p list k = (p, 0, 0)
  | 0, _ => rfl
  | k + 1, h => by
    have ih := ep_all (p := p) (list := list) k fun j hj => h j (by omega)
    have e := step_a (h k (by omega))
    rw [epR, ih, if_pos rfl, e]; rfl
/-- An epoch makes no changes when nothing is classified wrong. -/
theorem mis_iff {p : Perceptron} {list : List Sample} (hc : cdR p list = 0) (h : (epR p list list.length).2.2 = 0) : (epR p list list.length).2.1 = 0 ↔ misL p list list.length = [] := by
  obtain ⟨h1, h2, h3⟩ := cd_ok hc
  have hw : ∀ j, j < list.length → (at_ p.Labels (bstI (scR p.Weights (inpR (at_ list j).Feats))).toNat = (at_ list j).Label ↔ bstI (scR p.Weights (inpR (at_ list j).Feats)) = fndL p.Labels (at_ list j).Label) := fun j hj => by
    have hb := (step_in (s := at_ list j) h1 (h2 j hj).2.1).2
    have hn := okP_n h1
    exact lab_win h1 (h2 j hj).2.1 (by omega)
  rw [misL_nil]
  constructor
  · intro z j hj
    exact (hw j hj).2 (((ep_zero _ h).2 z).2 j hj)
  · intro z
    rw [ep_all _ fun j hj => (hw j hj).1 (z j hj)]
/-- The states of the training after k epochs. -/
def trS (p : Perceptron) (list : List Sample) : Nat → (Perceptron × List Int) × (Int × Bool)
  | 0 => ((p, []), (0, false))
  | k + 1 => if (trS p list k).2.2 = true then trS p list k else if (epR (trS p list k).1.1 list list.length).2.2 = 0 then (((epR (trS p list k).1.1 list list.length).1, (trS p list k).1.2 ++ [(epR (trS p list k).1.1 list list.length).2.1]), (0, decide ((epR (trS p list k).1.1 list list.length).2.1 = 0))) else ((⟨[], []⟩, []), ((epR (trS p list k).1.1 list list.length).2.2, true))
theorem trS_go {p q x : Perceptron} {list : List Sample} {m : List Int} {k : Nat} {n : Int} (h : trS p list k = ((q, m), (0, false))) (he : epR q list list.length = (x, n, 0)) : trS p list (k + 1) = ((x, m ++ [n]), (0, decide (n = 0))) := by
  rw [trS, h]
  simp only [he, Bool.false_eq_true, if_false, if_true]
theorem trS_err {p q : Perceptron} {list : List Sample} {m : List Int} {k : Nat} {c : Int} (h : trS p list k = ((q, m), (0, false))) (he : (epR q list list.length).2.2 = c) (hc : ¬ c = 0) : trS p list (k + 1) = ((⟨[], []⟩, []), (c, true)) := by
  rw [trS, h]
  simp only [he, Bool.false_eq_true, if_false, hc]
theorem trS_stop {p : Perceptron} {list : List Sample} {r : (Perceptron × List Int) × (Int × Bool)} {k : Nat} (h : trS p list k = r) (hr : r.2.2 = true) : ∀ m, k ≤ m → trS p list m = r
  | 0, hm => by rw [show 0 = k from by omega]; exact h
  | m + 1, hm => by
    by_cases e : k = m + 1
    · rw [← e]; exact h
    · have := trS_stop h hr m (by omega)
      rw [trS, this, if_pos hr]
def traR (p : Perceptron) (list : List Sample) (e : Int) : (Perceptron × List Int) × Int := if cdR p list = 0 then (if inB e 0 20 = true then ((trS p list e.toNat).1, (trS p list e.toNat).2.1) else ((⟨[], []⟩, []), 2)) else ((⟨[], []⟩, []), cdR p list)
theorem tra_a {p : Perceptron} {list : List Sample} {e : Int} (h : ¬ cdR p list = 0) : traR p list e = ((⟨[], []⟩, []), cdR p list) := if_neg h
theorem tra_b {p : Perceptron} {list : List Sample} {e : Int} (h : cdR p list = 0) (h2 : inB e 0 20 = false) : traR p list e = ((⟨[], []⟩, []), 2) := by unfold traR; rw [if_pos h, h2]; rfl
theorem tra_c {p : Perceptron} {list : List Sample} {e : Int} (h : cdR p list = 0) (h2 : inB e 0 20 = true) : traR p list e = ((trS p list e.toNat).1, (trS p list e.toNat).2.1) := by unfold traR; rw [if_pos h, if_pos h2]
theorem at_snoc {α : Type} [Inhabited α] (xs : List α) (x : α) : at_ (xs ++ [x]) ((xs ++ [x]).length - 1) = x := by simp [at_]
theorem trS_law {p : Perceptron} {list : List Sample} (hp : okPerc p = true) : ∀ k, (trS p list k).2.1 = 0 → (okPerc (trS p list k).1.1 = true ∧ (trS p list k).1.1.Labels = p.Labels) ∧ (trS p list k).1.2.length ≤ k ∧ ((trS p list k).2.2 = false → (trS p list k).1.2.length = k) ∧ ((trS p list k).2.2 = true → 1 ≤ (trS p list k).1.2.length ∧ at_ (trS p list k).1.2 ((trS p list k).1.2.length - 1) = 0) ∧
    (1 ≤ (trS p list k).1.2.length → at_ (trS p list k).1.2 ((trS p list k).1.2.length - 1) = 0 → (epR (trS p list k).1.1 list list.length).2 = (0, 0))
  | 0, _ => by
    refine ⟨⟨hp, rfl⟩, Nat.le_refl _, fun _ => rfl, fun h => ?_, fun h => ?_⟩
    · exact absurd (show false = true from h) (by decide)
    · exact absurd (show 1 ≤ 0 from h) (by decide)
  | k + 1, h => by
    by_cases hs : (trS p list k).2.2 = true
    · have e : trS p list (k + 1) = trS p list k := by rw [trS, if_pos hs]
      rw [e] at h ⊢
      obtain ⟨a, b, c, d, f⟩ := trS_law hp k h
      refine ⟨a, by omega, fun z => ?_, d, f⟩
      rw [hs] at z; cases z
    · by_cases he : (epR (trS p list k).1.1 list list.length).2.2 = 0
      · have e : trS p list (k + 1) = (((epR (trS p list k).1.1 list list.length).1, (trS p list k).1.2 ++ [(epR (trS p list k).1.1 list list.length).2.1]), (0, decide ((epR (trS p list k).1.1 list list.length).2.1 = 0))) := by rw [trS, if_neg hs, if_pos he]
        have h0 : (trS p list k).2.1 = 0 := by
          cases k with
          | zero => rfl
          | succ k =>
            rw [trS] at hs ⊢
            split
            · rename_i q; rw [if_pos q] at hs; exact absurd q hs
            · rename_i q
              rw [if_neg q] at hs
              split
              · rfl
              · rename_i q2; rw [if_neg q2] at hs; exact absurd rfl hs
        obtain ⟨a, b, c, d, f⟩ := trS_law hp k h0
        have g := ep_ok (list := list) a.1 _ he
        rw [e]
        refine ⟨⟨g.1, g.2.trans a.2⟩, by simp; omega, fun z => by have := c (by simpa using hs); simp; omega, fun z => ⟨by simp, ?_⟩, fun _ z => ?_⟩
        · rw [at_snoc]; exact of_decide_eq_true z
        · rw [at_snoc] at z
          have w := ((ep_zero _ he).2 z).1
          show (epR (epR (trS p list k).1.1 list list.length).1 list list.length).2 = (0, 0)
          rw [w]
          exact Prod.ext z he
      · have e : trS p list (k + 1) = ((⟨[], []⟩, []), ((epR (trS p list k).1.1 list list.length).2.2, true)) := by rw [trS, if_neg hs, if_neg he]
        rw [e] at h; exact absurd h he
/-- What the training shows. -/
theorem tra_law {p x : Perceptron} {list : List Sample} {m : List Int} {c e : Int} (h : ((x, m), c) = traR p list e) (hc : c = 0) : ((m.length : Int) ≤ e ∧ e ≤ 20) ∧ ((m.length : Int) < e → 1 ≤ m.length ∧ at_ m (m.length - 1) = 0) ∧ (1 ≤ m.length → at_ m (m.length - 1) = 0 → cdR x list = 0 ∧ misL x list list.length = []) := by
  subst hc
  by_cases h1 : cdR p list = 0
  · cases h2 : inB e 0 20 with
    | false => rw [tra_b h1 h2] at h; cases h
    | true =>
      have hb := inB_iff.1 h2
      rw [tra_c h1 h2, Prod.mk.injEq] at h
      obtain ⟨h3, h4⟩ := h
      obtain ⟨q1, q2, q3⟩ := cd_ok h1
      obtain ⟨a, b, d, f, g⟩ := trS_law (list := list) q1 e.toNat h4.symm
      rw [← h3] at a b d f g
      refine ⟨⟨by show (m.length : Int) ≤ e; have : m.length ≤ e.toNat := b; omega, hb.2⟩, fun z => ?_, fun z1 z2 => ?_⟩
      · cases hs : (trS p list e.toNat).2.2 with
        | true => exact f hs
        | false => have : m.length = e.toNat := d hs; omega
      · have w : (epR x list list.length).2 = (0, 0) := g z1 z2
        have hcx : cdR x list = 0 := cd_of a.1 (fun j hj => ⟨(q2 j hj).1, by have := (q2 j hj).2.1; rw [show x.Labels = p.Labels from a.2]; exact this⟩) q3
        exact ⟨hcx, (mis_iff hcx (by rw [w])).1 (by rw [w])⟩
  · rw [tra_a h1, Prod.mk.injEq] at h
    exact absurd h.2.symm h1

theorem ep_fin {p : Perceptron} {list : List Sample} {ls : List ByteArray} {W : List (List Int)} {n c : Int} (hp : okPerc p = true) (h1 : ls = p.Labels) (h2 : (epR p list list.length).2 = (n, c)) (h3 : c = 0 → W = (epR p list list.length).1.Weights) (hc : c = 0) : (Perceptron.mk ls W, n, (0 : Int)) = epR p list list.length := by
  have h4 := ep_ok (list := list) hp list.length (by rw [h2]; exact hc)
  refine Prod.ext ?_ ?_
  · show Perceptron.mk ls W = (epR p list list.length).1
    rw [h3 hc, h1, ← h4.2]
  · rw [h2, hc]
theorem ep_badc {p : Perceptron} {list : List Sample} {n c : Int} (h2 : (epR p list list.length).2 = (n, c)) (hc : ¬ c = 0) : ((⟨[], []⟩ : Perceptron), (0 : Int), c) = epR p list list.length := by
  have := epR_bad (p := p) (list := list) list.length (by rw [h2]; exact hc)
  rw [this, h2]

-- impl.validSample
theorem validSample_ok (s : Sample) (hz : s.Label.size ≤ 9223372036854775807) : Con Try.prog 84 [agSample s] true (Bv (okS s)) := by
  refine fn_ok (fn := Try.f84) (nt := 11) Try.func84 rfl rfl rfl rfl (by simp [taggedL, tagged, tagFeat]) fun B hB => ?_
  refine aw_lens (x := agSample s) 0 rfl (fun len_s => ?_)
  simp [LenOK, LenL, cFeat, fFeat, slFeat] at len_s
  refine aR [(0, .new 1)] [1] [1] [.ref 1 0] [some (bxSample s)] [] hB trivial ?_
  refine aw_seq ?_
  rcases Bool.eq_false_or_eq_true (okLabel s.Label) with h1 | h1
  ·refine aw_r [(2, .call [(true, .any)] true (Bv true)), (6, .call [(true, .any)] true (Bv (okFeats s.Feats 384)))] [2] [] [Bv (okFeats s.Feats 384)] [] [Con Try.prog 77 [Sv s.Label] true (Bv true) ∧ True, Con Try.prog 35 [slFeat false s.Feats] true (Bv (okFeats s.Feats 384)) ∧ True] hB ⟨⟨(con_bool h1 (implIsLabel_ok s.Label hz)), trivial⟩, ⟨(ValidFeats_ok s.Feats), trivial⟩, trivial⟩ ?_
   refine ae_then ?_
   refine aw_ret ?_
   refine ae_ret hB (Bv (okFeats s.Feats 384)) (by kernel_rfl) (.inl (by refine congrArg Bv ?_; unfold okS; first | (rw [show okLabel s.Label = false from by assumption]; rfl) | (rw [show okLabel s.Label = true from by assumption]; rfl))) rfl (fun _ => trivial)
  refine aw_r [(2, .call [(true, .any)] true (Bv false))] [2] [] [Bv false] [] [Con Try.prog 77 [Sv s.Label] true (Bv false) ∧ True] hB ⟨⟨(con_bool h1 (implIsLabel_ok s.Label hz)), trivial⟩, trivial⟩ ?_
  refine ae_then ?_
  refine aw_ret ?_
  refine ae_ret hB (Bv false) (by kernel_rfl) (.inl (by refine congrArg Bv ?_; unfold okS; first | (rw [show okLabel s.Label = false from by assumption]; rfl) | (rw [show okLabel s.Label = true from by assumption]; rfl))) rfl (fun _ => trivial)


-- impl.trainable$1
theorem trainable1_ok (s : Sample) (hz : s.Label.size ≤ 9223372036854775807) : Con Try.prog 83 [agSample s] true (Bv (!(okS s))) := by
  refine fn_ok (fn := Try.f83) (nt := 6) Try.func83 rfl rfl rfl rfl (by simp [taggedL, tagged, tagFeat]) fun B hB => ?_
  refine aw_lens (x := agSample s) 0 rfl (fun len_s => ?_)
  simp [LenOK, LenL, cFeat, fFeat, slFeat] at len_s
  refine aR [(0, .new 1)] [1] [1] [.ref 1 0] [some (bxSample s)] [] hB trivial ?_
  refine aR [(1, .call [(true, .any)] true (Bv (okS s)))] [2] [] [Bv (!((okS s)))] [] [Con Try.prog 84 [agSample s] true (Bv (okS s)) ∧ True] hB ⟨⟨(validSample_ok s hz), trivial⟩, trivial⟩ ?_
  refine aw_ret ?_
  refine ae_ret hB (Bv (!((okS s)))) (by kernel_rfl) (.inl (by first | rfl | (refine congrArg Bv ?_; simp [*]; done) | (refine congrArg Bv ?_; simp [*]; omega) | (refine congrArg Bv ?_; simp_all []; done) | (refine congrArg Bv ?_; simp_all []; omega))) rfl (fun _ => trivial)


-- slices.Index[[]string,string]
theorem indexS_ok (s : List ByteArray) (v : ByteArray) : Con Try.prog 104 [slS false s, Sv v] true (I (fndL s v)) := by
  refine fn_ok (fn := Try.f104) (nt := 19) Try.func104 rfl rfl rfl rfl (by simp [taggedL, tagged, tagS]) fun B hB => ?_
  refine aw_lens (x := slS false s) 0 rfl (fun len_s => ?_)
  simp [LenOK, LenL, cS, fS, slS] at len_s
  refine aR [] [0, 1] [] [slS false s, Sv v] [] [] hB trivial ?_
  refine aw_seq ?_
  refine aR [] [0, 1, 7, 8] [] [slS false s, Sv v, I (s.length : Int), I 0] [] [] hB trivial ?_
  refine aw_block ?_
  refine aw_loop (fun gn gσ => ∃ (t8 : Int), gn = ((s.length : Int) - t8).toNat ∧ (0 ≤ t8 ∧ t8 ≤ (s.length : Int)) ∧ (∀ j : Nat, (j : Int) < t8 → ¬ at_ s j = v) ∧ gσ = mkS [(0, slS false s), (1, Sv v), (7, I (s.length : Int)), (8, I t8)] []) (((s.length : Int) - 0).toNat) ⟨0, rfl, (by omega), (by intro j hj; omega), rfl⟩ (fun gn gσ hI => ?_)
  obtain ⟨t8, rfl, hi0, hne, rfl⟩ := hI
  refine aw_seq ?_
  by_cases h1 : t8 < (s.length : Int)
  ·have hi : t8.toNat < s.length := by omega
   refine aw_r [(0, .dec true)] [0, 1, 7, 8, 9] [] [slS false s, Sv v, I (s.length : Int), I t8, Bv true] [] [t8 < (s.length : Int)] hB ⟨h1, trivial⟩ ?_
   refine ae_then ?_
   refine aw_seq ?_
   refine aw_true rfl ?_
   refine aw_skip ?_
   refine ae_then ?_
   refine aw_seq ?_
   refine aw_block ?_
   refine aR [] [0, 1, 5, 7, 8] [] [slS false s, Sv v, I t8, I (s.length : Int), I t8] [] [] hB trivial ?_
   refine aw_seq ?_
   by_cases h2 : v = (at_ s t8.toNat)
   ·have hfin : fndL s v = t8.toNat := firstN_hit hi (decide_eq_true (Eq.symm h2)) (fun j hj => decide_eq_false (hne j (by omega)))
    refine aw_r [(5, .dec true)] [0, 1, 5, 7, 8, 16] [] [slS false s, Sv v, I t8, I (s.length : Int), I t8, Bv true] [] [(0 : Int) ≤ t8 ∧ t8 < (s.length : Int), v = (at_ s t8.toNat)] hB ⟨⟨(by omega), (by omega)⟩, h2, trivial⟩ ?_
    refine ae_then ?_
    refine aw_true rfl ?_
    refine aR [] [4] [] [I t8] [] [] hB trivial ?_
    refine aw_ret ?_
    refine ae_ret_block (ae_ret_then (ae_ret_then (ae_ret_block (ae_ret_then ?_))))
    refine ae_ret hB (I t8) (by kernel_rfl) (.inl (by refine congrArg I ?_; first | (rw [hfin]; done) | (rw [hfin]; omega))) rfl (fun _ => trivial)
   have hno : ¬ at_ s t8.toNat = v := fun q => h2 q.symm
   refine aw_r [(5, .dec false)] [0, 1, 5, 7, 8, 16] [] [slS false s, Sv v, I t8, I (s.length : Int), I t8, Bv false] [] [(0 : Int) ≤ t8 ∧ t8 < (s.length : Int), ¬ (v = (at_ s t8.toNat))] hB ⟨⟨(by omega), (by omega)⟩, h2, trivial⟩ ?_
   refine ae_then ?_
   refine aw_false rfl ?_
   refine aw_skip ?_
   refine ae_block 1 ?_
   refine ae_then ?_
   refine aw_r [] [0, 1, 7, 8] [] [slS false s, Sv v, I (s.length : Int), I (t8 + 1)] [] [inR .i64 (t8 + 1)] hB ⟨(inR_i64 (by omega) (by omega)), trivial⟩ ?_
   exact ae_again _ (by omega) ⟨(t8 + 1), rfl, (by omega), (by intro j hj; by_cases ej : j = t8.toNat; (subst ej; exact hno); exact hne j (by omega)), rfl⟩
  have hfin : fndL s v = -1 := firstN_none (fun j hj => decide_eq_false (hne j (by omega)))
  refine aw_r [(0, .dec false)] [0, 1, 7, 8, 9] [] [slS false s, Sv v, I (s.length : Int), I t8, Bv false] [] [¬ (t8 < (s.length : Int))] hB ⟨h1, trivial⟩ ?_
  refine ae_then ?_
  refine aw_seq ?_
  refine aw_false rfl ?_
  refine aw_exit ?_
  refine ae_exit_then ?_
  refine ae_exit_then ?_
  refine ae_exit_same ?_
  refine ae_then ?_
  refine aR [] [4] [] [I (-1)] [] [] hB trivial ?_
  refine aw_ret ?_
  refine ae_ret hB (I (-1)) (by kernel_rfl) (.inl (by refine congrArg I ?_; first | (rw [hfin]; done) | (rw [hfin]; omega))) rfl (fun _ => trivial)


-- slices.Contains[[]string,string]
theorem containsStr_ok (s : List ByteArray) (v : ByteArray) : Con Try.prog 86 [slS false s, Sv v] true (Bv (decide (0 ≤ fndL s v))) := by
  refine fn_ok (fn := Try.f86) (nt := 9) Try.func86 rfl rfl rfl rfl (by simp [taggedL, tagged, tagS]) fun B hB => ?_
  refine aw_lens (x := slS false s) 0 rfl (fun len_s => ?_)
  simp [LenOK, LenL, cS, fS, slS] at len_s
  refine aR [] [0, 1] [] [slS false s, Sv v] [] [] hB trivial ?_
  refine aR [(2, .call [(true, .any), (true, .any)] true (I (fndL s v)))] [4] [] [Bv (decide (0 ≤ (fndL s v)))] [] [Con Try.prog 104 [slS false s, Sv v] true (I (fndL s v)) ∧ True] hB ⟨⟨(indexS_ok s v), trivial⟩, trivial⟩ ?_
  refine aw_ret ?_
  refine ae_ret hB (Bv (decide (0 ≤ (fndL s v)))) (by kernel_rfl) (.inl (by rfl)) rfl (fun _ => trivial)


-- impl.trainable$2
theorem trainable2_ok (s : Sample) (p : Perceptron) : Con Try.prog 85 [agSample s, .ptr false [slS false p.Labels, slLI false p.Weights]] true (Bv (!(decide (0 ≤ fndL p.Labels s.Label)))) := by
  refine fn_ok (fn := Try.f85) (nt := 10) Try.func85 rfl rfl rfl rfl (by simp [taggedL, tagged, tagFeat, tagLI, tagS]) fun B hB => ?_
  refine aw_lens (x := agSample s) 0 rfl (fun len_s => ?_)
  simp [LenOK, LenL, cFeat, fFeat, slFeat] at len_s
  refine aw_lens (x := .ptr false [slS false p.Labels, slLI false p.Weights]) 1 rfl (fun len_p => ?_)
  simp [LenOK, LenL, cI, cLI, cS, fI, fLI, fS, slI, slLI, slS] at len_p
  refine aR [(0, .new 2)] [1, 2] [2] [.ptr false [slS false p.Labels, slLI false p.Weights], .ref 2 0] [some (bxSample s)] [] hB trivial ?_
  refine aR [(4, .call [(true, .any), (true, .any)] true (Bv (decide (0 ≤ fndL p.Labels s.Label))))] [3] [] [Bv (!((decide (0 ≤ fndL p.Labels s.Label))))] [] [Con Try.prog 86 [slS false p.Labels, Sv s.Label] true (Bv (decide (0 ≤ fndL p.Labels s.Label))) ∧ True] hB ⟨⟨(containsStr_ok p.Labels s.Label), trivial⟩, trivial⟩ ?_
  refine aw_ret ?_
  refine ae_ret hB (Bv (!((decide (0 ≤ fndL p.Labels s.Label))))) (by kernel_rfl) (.inl (by first | rfl | (refine congrArg Bv ?_; simp [*]; done) | (refine congrArg Bv ?_; simp [*]; omega) | (refine congrArg Bv ?_; simp_all []; done) | (refine congrArg Bv ?_; simp_all []; omega))) rfl (fun _ => trivial)


-- impl.trainable
theorem containsS1_ok_idx (s : List Sample) (hel : ∀ j, j < s.length → (at_ s j).Label.size ≤ 9223372036854775807) : Con Try.prog 103 [slSample false s, .fn 83 []] true (I (firstN s.length (fun j => (!(okS (at_ s j)))))) := by
  refine fn_ok (fn := Try.f103) (nt := 19) Try.func103 rfl rfl rfl rfl (by simp [taggedL, tagged, tagSample]) fun B hB => ?_
  refine aw_lens (x := slSample false s) 0 rfl (fun len_s => ?_)
  simp [LenOK, LenL, cFeat, cSample, fFeat, fSample, slFeat, slSample] at len_s
  refine aR [] [0, 1] [] [slSample false s, .fn 83 []] [] [] hB trivial ?_
  refine aw_seq ?_
  refine aR [] [0, 1, 7, 8] [] [slSample false s, .fn 83 [], I (s.length : Int), I 0] [] [] hB trivial ?_
  refine aw_block ?_
  refine aw_loop (fun gn gσ => ∃ (t8 : Int), gn = ((s.length : Int) - t8).toNat ∧ (0 ≤ t8 ∧ t8 ≤ (s.length : Int)) ∧ (∀ j : Nat, (j : Int) < t8 → (!(okS (at_ s j))) = false) ∧ gσ = mkS [(0, slSample false s), (1, .fn 83 []), (7, I (s.length : Int)), (8, I t8)] []) (((s.length : Int) - 0).toNat) ⟨0, rfl, (by omega), (by intro j hj; omega), rfl⟩ (fun gn gσ hI => ?_)
  obtain ⟨t8, rfl, hi0, hall0, rfl⟩ := hI
  refine aw_seq ?_
  by_cases h1 : t8 < (s.length : Int)
  ·have hi : t8.toNat < s.length := by omega
   refine aw_r [(0, .dec true)] [0, 1, 7, 8, 9] [] [slSample false s, .fn 83 [], I (s.length : Int), I t8, Bv true] [] [t8 < (s.length : Int)] hB ⟨h1, trivial⟩ ?_
   refine ae_then ?_
   refine aw_seq ?_
   refine aw_true rfl ?_
   refine aw_skip ?_
   refine ae_then ?_
   refine aw_seq ?_
   refine aw_block ?_
   refine aR [] [0, 1, 5, 7, 8] [] [slSample false s, .fn 83 [], I t8, I (s.length : Int), I t8] [] [] hB trivial ?_
   refine aw_seq ?_
   rcases Bool.eq_false_or_eq_true (!(okS (at_ s t8.toNat))) with h2 | h2
   ·have hfin : firstN s.length (fun j => (!(okS (at_ s j)))) = t8.toNat := firstN_hit hi h2 (fun j hj => hall0 j (by omega))
    refine aw_r [(5, .call [(true, .any)] true (Bv true))] [0, 1, 5, 7, 8, 16] [] [slSample false s, .fn 83 [], I t8, I (s.length : Int), I t8, Bv true] [] [(0 : Int) ≤ t8 ∧ t8 < (s.length : Int), Con Try.prog 83 [agSample (at_ s t8.toNat)] true (Bv true) ∧ True] hB ⟨⟨(by omega), (by omega)⟩, ⟨(con_bool h2 (trainable1_ok (at_ s t8.toNat) (hel _ hi))), trivial⟩, trivial⟩ ?_
    refine ae_then ?_
    refine aw_true rfl ?_
    refine aR [] [4] [] [I t8] [] [] hB trivial ?_
    refine aw_ret ?_
    refine ae_ret_block (ae_ret_then (ae_ret_then (ae_ret_block (ae_ret_then ?_))))
    refine ae_ret hB (I t8) (by kernel_rfl) (.inl (by refine congrArg I ?_; first | (rw [hfin]; done) | (rw [hfin]; omega))) rfl (fun _ => trivial)
   refine aw_r [(5, .call [(true, .any)] true (Bv false))] [0, 1, 5, 7, 8, 16] [] [slSample false s, .fn 83 [], I t8, I (s.length : Int), I t8, Bv false] [] [(0 : Int) ≤ t8 ∧ t8 < (s.length : Int), Con Try.prog 83 [agSample (at_ s t8.toNat)] true (Bv false) ∧ True] hB ⟨⟨(by omega), (by omega)⟩, ⟨(con_bool h2 (trainable1_ok (at_ s t8.toNat) (hel _ hi))), trivial⟩, trivial⟩ ?_
   refine ae_then ?_
   refine aw_false rfl ?_
   refine aw_skip ?_
   refine ae_block 1 ?_
   refine ae_then ?_
   refine aw_r [] [0, 1, 7, 8] [] [slSample false s, .fn 83 [], I (s.length : Int), I (t8 + 1)] [] [inR .i64 (t8 + 1)] hB ⟨(inR_i64 (by omega) (by omega)), trivial⟩ ?_
   exact ae_again _ (by omega) ⟨(t8 + 1), rfl, (by omega), (by intro j hj; by_cases ej : j = t8.toNat; (subst ej; first | assumption | rfl); exact hall0 j (by omega)), rfl⟩
  have hfin : firstN s.length (fun j => (!(okS (at_ s j)))) = -1 := firstN_none (fun j hj => hall0 j (by omega))
  refine aw_r [(0, .dec false)] [0, 1, 7, 8, 9] [] [slSample false s, .fn 83 [], I (s.length : Int), I t8, Bv false] [] [¬ (t8 < (s.length : Int))] hB ⟨h1, trivial⟩ ?_
  refine ae_then ?_
  refine aw_seq ?_
  refine aw_false rfl ?_
  refine aw_exit ?_
  refine ae_exit_then ?_
  refine ae_exit_then ?_
  refine ae_exit_same ?_
  refine ae_then ?_
  refine aR [] [4] [] [I (-1)] [] [] hB trivial ?_
  refine aw_ret ?_
  refine ae_ret hB (I (-1)) (by kernel_rfl) (.inl (by refine congrArg I ?_; first | (rw [hfin]; done) | (rw [hfin]; omega))) rfl (fun _ => trivial)

theorem containsS1_ok (s : List Sample) (hel : ∀ j, j < s.length → (at_ s j).Label.size ≤ 9223372036854775807) : Con Try.prog 82 [slSample false s, .fn 83 []] true (Bv (anyN s.length (fun j => (!(okS (at_ s j)))))) := by
  refine fn_ok (fn := Try.f82) (nt := 9) Try.func82 rfl rfl rfl rfl (by simp [taggedL, tagged, tagSample]) fun B hB => ?_
  refine aw_lens (x := slSample false s) 0 rfl (fun len_s => ?_)
  simp [LenOK, LenL, cFeat, cSample, fFeat, fSample, slFeat, slSample] at len_s
  refine aR [] [0, 1] [] [slSample false s, .fn 83 []] [] [] hB trivial ?_
  refine aR [(2, .call [(true, .any), (true, .any)] true (I (firstN s.length (fun j => (!(okS (at_ s j)))))))] [4] [] [Bv (decide (0 ≤ (firstN s.length (fun j => (!(okS (at_ s j)))))))] [] [Con Try.prog 103 [slSample false s, .fn 83 []] true (I (firstN s.length (fun j => (!(okS (at_ s j)))))) ∧ True] hB ⟨⟨(containsS1_ok_idx s hel), trivial⟩, trivial⟩ ?_
  refine aw_ret ?_
  refine ae_ret hB (Bv (decide (0 ≤ (firstN s.length (fun j => (!(okS (at_ s j)))))))) (by kernel_rfl) (.inl (by exact congrArg Bv (firstN_any _ _))) rfl (fun _ => trivial)

theorem containsS2_ok_idx (s : List Sample) (p : Perceptron) : Con Try.prog 103 [slSample false s, .fn 85 [.ptr false [slS false p.Labels, slLI false p.Weights]]] true (I (firstN s.length (fun j => (!(decide (0 ≤ fndL p.Labels (at_ s j).Label)))))) := by
  refine fn_ok (fn := Try.f103) (nt := 19) Try.func103 rfl rfl rfl rfl (by simp [taggedL, tagged, tagLI, tagS, tagSample]) fun B hB => ?_
  refine aw_lens (x := slSample false s) 0 rfl (fun len_s => ?_)
  simp [LenOK, LenL, cFeat, cSample, fFeat, fSample, slFeat, slSample] at len_s
  refine aR [] [0, 1] [] [slSample false s, .fn 85 [.ptr false [slS false p.Labels, slLI false p.Weights]]] [] [] hB trivial ?_
  refine aw_seq ?_
  refine aR [] [0, 1, 7, 8] [] [slSample false s, .fn 85 [.ptr false [slS false p.Labels, slLI false p.Weights]], I (s.length : Int), I 0] [] [] hB trivial ?_
  refine aw_block ?_
  refine aw_loop (fun gn gσ => ∃ (t8 : Int), gn = ((s.length : Int) - t8).toNat ∧ (0 ≤ t8 ∧ t8 ≤ (s.length : Int)) ∧ (∀ j : Nat, (j : Int) < t8 → (!(decide (0 ≤ fndL p.Labels (at_ s j).Label))) = false) ∧ gσ = mkS [(0, slSample false s), (1, .fn 85 [.ptr false [slS false p.Labels, slLI false p.Weights]]), (7, I (s.length : Int)), (8, I t8)] []) (((s.length : Int) - 0).toNat) ⟨0, rfl, (by omega), (by intro j hj; omega), rfl⟩ (fun gn gσ hI => ?_)
  obtain ⟨t8, rfl, hi0, hall0, rfl⟩ := hI
  refine aw_seq ?_
  by_cases h1 : t8 < (s.length : Int)
  ·have hi : t8.toNat < s.length := by omega
   refine aw_r [(0, .dec true)] [0, 1, 7, 8, 9] [] [slSample false s, .fn 85 [.ptr false [slS false p.Labels, slLI false p.Weights]], I (s.length : Int), I t8, Bv true] [] [t8 < (s.length : Int)] hB ⟨h1, trivial⟩ ?_
   refine ae_then ?_
   refine aw_seq ?_
   refine aw_true rfl ?_
   refine aw_skip ?_
   refine ae_then ?_
   refine aw_seq ?_
   refine aw_block ?_
   refine aR [] [0, 1, 5, 7, 8] [] [slSample false s, .fn 85 [.ptr false [slS false p.Labels, slLI false p.Weights]], I t8, I (s.length : Int), I t8] [] [] hB trivial ?_
   refine aw_seq ?_
   rcases Bool.eq_false_or_eq_true (!(decide (0 ≤ fndL p.Labels (at_ s t8.toNat).Label))) with h2 | h2
   ·have hfin : firstN s.length (fun j => (!(decide (0 ≤ fndL p.Labels (at_ s j).Label)))) = t8.toNat := firstN_hit hi h2 (fun j hj => hall0 j (by omega))
    refine aw_r [(5, .call [(true, .any), (true, .any)] true (Bv true))] [0, 1, 5, 7, 8, 16] [] [slSample false s, .fn 85 [.ptr false [slS false p.Labels, slLI false p.Weights]], I t8, I (s.length : Int), I t8, Bv true] [] [(0 : Int) ≤ t8 ∧ t8 < (s.length : Int), Con Try.prog 85 [agSample (at_ s t8.toNat), .ptr false [slS false p.Labels, slLI false p.Weights]] true (Bv true) ∧ True] hB ⟨⟨(by omega), (by omega)⟩, ⟨(con_bool h2 (trainable2_ok (at_ s t8.toNat) p)), trivial⟩, trivial⟩ ?_
    refine ae_then ?_
    refine aw_true rfl ?_
    refine aR [] [4] [] [I t8] [] [] hB trivial ?_
    refine aw_ret ?_
    refine ae_ret_block (ae_ret_then (ae_ret_then (ae_ret_block (ae_ret_then ?_))))
    refine ae_ret hB (I t8) (by kernel_rfl) (.inl (by refine congrArg I ?_; first | (rw [hfin]; done) | (rw [hfin]; omega))) rfl (fun _ => trivial)
   refine aw_r [(5, .call [(true, .any), (true, .any)] true (Bv false))] [0, 1, 5, 7, 8, 16] [] [slSample false s, .fn 85 [.ptr false [slS false p.Labels, slLI false p.Weights]], I t8, I (s.length : Int), I t8, Bv false] [] [(0 : Int) ≤ t8 ∧ t8 < (s.length : Int), Con Try.prog 85 [agSample (at_ s t8.toNat), .ptr false [slS false p.Labels, slLI false p.Weights]] true (Bv false) ∧ True] hB ⟨⟨(by omega), (by omega)⟩, ⟨(con_bool h2 (trainable2_ok (at_ s t8.toNat) p)), trivial⟩, trivial⟩ ?_
   refine ae_then ?_
   refine aw_false rfl ?_
   refine aw_skip ?_
   refine ae_block 1 ?_
   refine ae_then ?_
   refine aw_r [] [0, 1, 7, 8] [] [slSample false s, .fn 85 [.ptr false [slS false p.Labels, slLI false p.Weights]], I (s.length : Int), I (t8 + 1)] [] [inR .i64 (t8 + 1)] hB ⟨(inR_i64 (by omega) (by omega)), trivial⟩ ?_
   exact ae_again _ (by omega) ⟨(t8 + 1), rfl, (by omega), (by intro j hj; by_cases ej : j = t8.toNat; (subst ej; first | assumption | rfl); exact hall0 j (by omega)), rfl⟩
  have hfin : firstN s.length (fun j => (!(decide (0 ≤ fndL p.Labels (at_ s j).Label)))) = -1 := firstN_none (fun j hj => hall0 j (by omega))
  refine aw_r [(0, .dec false)] [0, 1, 7, 8, 9] [] [slSample false s, .fn 85 [.ptr false [slS false p.Labels, slLI false p.Weights]], I (s.length : Int), I t8, Bv false] [] [¬ (t8 < (s.length : Int))] hB ⟨h1, trivial⟩ ?_
  refine ae_then ?_
  refine aw_seq ?_
  refine aw_false rfl ?_
  refine aw_exit ?_
  refine ae_exit_then ?_
  refine ae_exit_then ?_
  refine ae_exit_same ?_
  refine ae_then ?_
  refine aR [] [4] [] [I (-1)] [] [] hB trivial ?_
  refine aw_ret ?_
  refine ae_ret hB (I (-1)) (by kernel_rfl) (.inl (by refine congrArg I ?_; first | (rw [hfin]; done) | (rw [hfin]; omega))) rfl (fun _ => trivial)

theorem containsS2_ok (s : List Sample) (p : Perceptron) : Con Try.prog 82 [slSample false s, .fn 85 [.ptr false [slS false p.Labels, slLI false p.Weights]]] true (Bv (anyN s.length (fun j => (!(decide (0 ≤ fndL p.Labels (at_ s j).Label)))))) := by
  refine fn_ok (fn := Try.f82) (nt := 9) Try.func82 rfl rfl rfl rfl (by simp [taggedL, tagged, tagLI, tagS, tagSample]) fun B hB => ?_
  refine aw_lens (x := slSample false s) 0 rfl (fun len_s => ?_)
  simp [LenOK, LenL, cFeat, cSample, fFeat, fSample, slFeat, slSample] at len_s
  refine aR [] [0, 1] [] [slSample false s, .fn 85 [.ptr false [slS false p.Labels, slLI false p.Weights]]] [] [] hB trivial ?_
  refine aR [(2, .call [(true, .any), (true, .any)] true (I (firstN s.length (fun j => (!(decide (0 ≤ fndL p.Labels (at_ s j).Label)))))))] [4] [] [Bv (decide (0 ≤ (firstN s.length (fun j => (!(decide (0 ≤ fndL p.Labels (at_ s j).Label)))))))] [] [Con Try.prog 103 [slSample false s, .fn 85 [.ptr false [slS false p.Labels, slLI false p.Weights]]] true (I (firstN s.length (fun j => (!(decide (0 ≤ fndL p.Labels (at_ s j).Label)))))) ∧ True] hB ⟨⟨(containsS2_ok_idx s p), trivial⟩, trivial⟩ ?_
  refine aw_ret ?_
  refine ae_ret hB (Bv (decide (0 ≤ (firstN s.length (fun j => (!(decide (0 ≤ fndL p.Labels (at_ s j).Label)))))))) (by kernel_rfl) (.inl (by exact congrArg Bv (firstN_any _ _))) rfl (fun _ => trivial)

theorem trainable_ok (p : Perceptron) (list : List Sample) (ok : ∀ y ∈ p.Labels, y.size ≤ 9223372036854775807) (ok2 : ∀ y ∈ list, y.Label.size ≤ 9223372036854775807) : Con Try.prog 59 [agPerceptron p, slSample false list] true (I (cdR p list)) := by
  refine fn_ok (fn := Try.f59) (nt := 18) Try.func59 rfl rfl rfl rfl (by simp [taggedL, tagged, tagLI, tagS, tagSample]) fun B hB => ?_
  refine aw_lens (x := agPerceptron p) 0 rfl (fun len_p => ?_)
  simp [LenOK, LenL, cI, cLI, cS, fI, fLI, fS, slI, slLI, slS] at len_p
  refine aw_lens (x := slSample false list) 1 rfl (fun len_list => ?_)
  simp [LenOK, LenL, cFeat, cSample, fFeat, fSample, slFeat, slSample] at len_list
  refine aR [(0, .new 2)] [1, 2] [2] [slSample false list, .ref 2 0] [some (bxPerceptron p)] [] hB trivial ?_
  refine aw_seq ?_
  refine aw_seq ?_
  rcases Bool.eq_false_or_eq_true (okPerc p) with h1 | h1
  ·have hpk := h1
   rcases Bool.eq_false_or_eq_true (anyN list.length (fun j => (!(okS (at_ list j))))) with h2 | h2
   ·have hal : allN list.length (fun j => okS (at_ list j)) = false := by have e : anyN list.length (fun j => !(okS (at_ list j))) = !(allN list.length (fun j => okS (at_ list j))) := anyN_not _ _; rw [e] at h2; simpa using h2
    have hst := cd_b hpk hal
    refine aw_r [(1, .call [(true, .any)] true (Bv true)), (5, .call [(true, .any), (true, .any)] true (Bv true))] [1, 2, 11] [2] [slSample false list, .ref 2 0, Bv true] [some (bxPerceptron p)] [Con Try.prog 34 [agPerceptron p] true (Bv true) ∧ True, Con Try.prog 82 [slSample false list, .fn 83 []] true (Bv true) ∧ True] hB ⟨⟨(con_bool h1 (ValidPerceptron_ok p ok)), trivial⟩, ⟨(con_bool h2 (containsS1_ok list (fun j hj => ok2 _ (at_mem hj)))), trivial⟩, trivial⟩ ?_
    refine ae_then ?_
    refine aw_true rfl ?_
    refine aR [] [4] [] [I 1] [] [] hB trivial ?_
    refine aw_ret ?_
    refine ae_ret_then ?_
    refine ae_ret hB (I 1) (by kernel_rfl) (.inl (by exact congrArg I hst.symm)) rfl (fun _ => trivial)
   have hal : allN list.length (fun j => okS (at_ list j)) = true := by have e : anyN list.length (fun j => !(okS (at_ list j))) = !(allN list.length (fun j => okS (at_ list j))) := anyN_not _ _; rw [e] at h2; simpa using h2
   refine aw_r [(1, .call [(true, .any)] true (Bv true)), (5, .call [(true, .any), (true, .any)] true (Bv false))] [1, 2, 11] [2] [slSample false list, .ref 2 0, Bv false] [some (bxPerceptron p)] [Con Try.prog 34 [agPerceptron p] true (Bv true) ∧ True, Con Try.prog 82 [slSample false list, .fn 83 []] true (Bv false) ∧ True] hB ⟨⟨(con_bool h1 (ValidPerceptron_ok p ok)), trivial⟩, ⟨(con_bool h2 (containsS1_ok list (fun j hj => ok2 _ (at_mem hj)))), trivial⟩, trivial⟩ ?_
   refine ae_then ?_
   refine aw_false rfl ?_
   refine aw_skip ?_
   refine ae_then ?_
   refine aw_seq ?_
   refine aw_seq ?_
   rcases Bool.eq_false_or_eq_true (anyN list.length (fun j => (!(decide (0 ≤ fndL p.Labels (at_ list j).Label))))) with h3 | h3
   ·have hal2 : allN list.length (fun j => decide (0 ≤ fndL p.Labels (at_ list j).Label)) = false := by have e : anyN list.length (fun j => !(decide (0 ≤ fndL p.Labels (at_ list j).Label))) = !(allN list.length (fun j => decide (0 ≤ fndL p.Labels (at_ list j).Label))) := anyN_not _ _; rw [e] at h3; simpa using h3
    have hst := cd_c hpk hal hal2
    refine aw_r [(2, .call [(true, .any), (false, .fn 85 [.ptr false [slS false p.Labels, slLI false p.Weights]])] true (Bv true))] [1, 14] [] [slSample false list, Bv true] [] [Con Try.prog 82 [slSample false list, .fn 85 [.ptr false [slS false p.Labels, slLI false p.Weights]]] true (Bv true) ∧ (85 = 85 ∧ ((false = true → true = true) ∧ AV.idsL [slS false p.Labels, slLI false p.Weights] = [] ∧ ((false = true → false = true) ∧ 1 = 1 ∧ p.Labels.length = p.Labels.length ∧ ∀ i_, i_ < p.Labels.length → (fS p.Labels) i_ = (fS p.Labels) i_ ∨ (AV.idsL ((fS p.Labels) i_) = [] ∧ leL (fun _ => none) false ((fS p.Labels) i_) ((fS p.Labels) i_))) ∧ ((false = true → false = true) ∧ 1 = 1 ∧ p.Weights.length = p.Weights.length ∧ ∀ i_, i_ < p.Weights.length → (fLI false p.Weights) i_ = (fLI false p.Weights) i_ ∨ (AV.idsL ((fLI false p.Weights) i_) = [] ∧ leL (fun _ => none) false ((fLI false p.Weights) i_) ((fLI false p.Weights) i_))) ∧ ([] : List AV) = []) ∧ ([] : List AV) = []) ∧ True] hB ⟨⟨(con_bool h3 (containsS2_ok list p)), ⟨rfl, ⟨⟨(fun h => by cases h), rfl, ⟨⟨(fun h => by cases h), rfl, rfl, fun i _ => .inl rfl⟩, ⟨⟨(fun h => by cases h), rfl, rfl, fun i _ => .inl rfl⟩, rfl⟩⟩⟩, rfl⟩⟩, trivial⟩, trivial⟩ ?_
    refine ae_then ?_
    refine aw_true rfl ?_
    refine aR [] [4] [] [I 3] [] [] hB trivial ?_
    refine aw_ret ?_
    refine ae_ret_then ?_
    refine ae_ret hB (I 3) (by kernel_rfl) (.inl (by exact congrArg I hst.symm)) rfl (fun _ => trivial)
   have hal2 : allN list.length (fun j => decide (0 ≤ fndL p.Labels (at_ list j).Label)) = true := by have e : anyN list.length (fun j => !(decide (0 ≤ fndL p.Labels (at_ list j).Label))) = !(allN list.length (fun j => decide (0 ≤ fndL p.Labels (at_ list j).Label))) := anyN_not _ _; rw [e] at h3; simpa using h3
   refine aw_r [(2, .call [(true, .any), (false, .fn 85 [.ptr false [slS false p.Labels, slLI false p.Weights]])] true (Bv false))] [1, 14] [] [slSample false list, Bv false] [] [Con Try.prog 82 [slSample false list, .fn 85 [.ptr false [slS false p.Labels, slLI false p.Weights]]] true (Bv false) ∧ (85 = 85 ∧ ((false = true → true = true) ∧ AV.idsL [slS false p.Labels, slLI false p.Weights] = [] ∧ ((false = true → false = true) ∧ 1 = 1 ∧ p.Labels.length = p.Labels.length ∧ ∀ i_, i_ < p.Labels.length → (fS p.Labels) i_ = (fS p.Labels) i_ ∨ (AV.idsL ((fS p.Labels) i_) = [] ∧ leL (fun _ => none) false ((fS p.Labels) i_) ((fS p.Labels) i_))) ∧ ((false = true → false = true) ∧ 1 = 1 ∧ p.Weights.length = p.Weights.length ∧ ∀ i_, i_ < p.Weights.length → (fLI false p.Weights) i_ = (fLI false p.Weights) i_ ∨ (AV.idsL ((fLI false p.Weights) i_) = [] ∧ leL (fun _ => none) false ((fLI false p.Weights) i_) ((fLI false p.Weights) i_))) ∧ ([] : List AV) = []) ∧ ([] : List AV) = []) ∧ True] hB ⟨⟨(con_bool h3 (containsS2_ok list p)), ⟨rfl, ⟨⟨(fun h => by cases h), rfl, ⟨⟨(fun h => by cases h), rfl, rfl, fun i _ => .inl rfl⟩, ⟨⟨(fun h => by cases h), rfl, rfl, fun i _ => .inl rfl⟩, rfl⟩⟩⟩, rfl⟩⟩, trivial⟩, trivial⟩ ?_
   refine ae_then ?_
   refine aw_false rfl ?_
   refine aw_skip ?_
   refine ae_then ?_
   refine aw_seq ?_
   refine aw_seq ?_
   by_cases h4 : 40 < (list.length : Int)
   ·have hst := cd_d hpk hal hal2 h4
    refine aw_r [(2, .dec true)] [17] [] [Bv true] [] [40 < (list.length : Int)] hB ⟨h4, trivial⟩ ?_
    refine ae_then ?_
    refine aw_true rfl ?_
    refine aR [] [4] [] [I 2] [] [] hB trivial ?_
    refine aw_ret ?_
    refine ae_ret_then ?_
    refine ae_ret hB (I 2) (by kernel_rfl) (.inl (by exact congrArg I hst.symm)) rfl (fun _ => trivial)
   have hst := cd_e hpk hal hal2 h4
   refine aw_r [(2, .dec false)] [17] [] [Bv false] [] [¬ (40 < (list.length : Int))] hB ⟨h4, trivial⟩ ?_
   refine ae_then ?_
   refine aw_false rfl ?_
   refine aw_skip ?_
   refine ae_then ?_
   refine aR [] [4] [] [I 0] [] [] hB trivial ?_
   refine aw_ret ?_
   refine ae_ret hB (I 0) (by kernel_rfl) (.inl (by exact congrArg I hst.symm)) rfl (fun _ => trivial)
  have hst := cd_a (list := list) h1
  refine aw_r [(1, .call [(true, .any)] true (Bv false))] [1, 2, 11] [2] [slSample false list, .ref 2 0, Bv true] [some (bxPerceptron p)] [Con Try.prog 34 [agPerceptron p] true (Bv false) ∧ True] hB ⟨⟨(con_bool h1 (ValidPerceptron_ok p ok)), trivial⟩, trivial⟩ ?_
  refine ae_then ?_
  refine aw_true rfl ?_
  refine aR [] [4] [] [I 1] [] [] hB trivial ?_
  refine aw_ret ?_
  refine ae_ret_then ?_
  refine ae_ret hB (I 1) (by kernel_rfl) (.inl (by exact congrArg I hst.symm)) rfl (fun _ => trivial)


-- slices.Clone[[]string,string]
theorem cloneS_ok (s : List ByteArray) (hl : s.length ≤ 100000) : ∃ (out : List ByteArray), (out = s) ∧ CallOK Try.prog 49 [slS false s] (lookO []) false (.arr 8511) (lookO [(8511, .arr 1 out.length (fS out))]) := by
  refine ⟨s, rfl, ?_⟩
  refine fn_okL [] [(8511, .arr 1 s.length (fS s))] (fn := Try.f49) (nt := 8) Try.func49 rfl rfl (args := [slS false s]) rfl (allcons (.inl ⟨rfl, tagS false _⟩) allnil) (res := .arr 8511) (fun B hB => ?_)
  refine aw_seq ?_
  refine aw_reg [] [0] [] [slS false s] [] [] (by kernel_rfl) hB trivial ?_
  refine ae_then ?_
  refine aw_seq ?_
  refine aw_seq ?_
  refine aw_reg [] [0, 4] [] [slS false s, .nilq s.length] [] [] (by kernel_rfl) hB trivial ?_
  refine ae_then ?_
  refine aw_nilq (n := s.length) rfl (fun h1 => ?_) ?_
  · refine aw_seq ?_
    refine aw_reg [] [2] [] [nilA] [] [] (by kernel_rfl) hB trivial ?_
    refine ae_then ?_
    refine aw_ret ?_
    refine ae_ret_then ?_
    refine ae_nil hB 2 8511 1 (fun _ => []) (by kernel_rfl) ?_
    refine ae_weak hB [] (T := [(2, .arr 8511)]) (O := [(8511, .arr 1 s.length (fS s))]) rfl (⟨.inl rfl, trivial⟩) (⟨.inr ⟨rfl, (by omega), fun i_ hi_ => absurd hi_ (by omega)⟩, trivial⟩) ?_
    refine ae_retL hB [(8511, .arr 1 s.length (fS s))] (⟨.inl rfl, trivial⟩) (.arr 8511) (by kernel_rfl) (.inl rfl) (fun h => by cases h) (fun h => by cases h)
  · refine aw_skip ?_
    refine ae_then ?_
    refine aw_seq ?_
    refine aw_reg [(0, .new 5), (2, .new 7)] [2] [7] [.arr 7] [some (.arr 1 (0 + s.length) (catF 0 (litF [] 1) (fS s)))] [(0 + s.length) * 16 ≤ 140737488355328] (by kernel_rfl) hB ⟨(by omega), trivial⟩ ?_
    refine ae_then ?_
    refine aw_ret ?_
    refine ae_weak hB [(8511, 7)] (T := [(2, .arr 8511)]) (O := [(8511, .arr 1 s.length (fS s))]) rfl (⟨.inl rfl, trivial⟩) (⟨.inr ⟨rfl, (by simp), fun i_ hi_ => .inl (cat_nil i_)⟩, trivial⟩) ?_
    refine ae_retL hB [(8511, .arr 1 s.length (fS s))] (⟨.inl rfl, trivial⟩) (.arr 8511) (by kernel_rfl) (.inl rfl) (fun h => by cases h) (fun h => by cases h)


-- slices.Clone[[]int64,int64]
theorem cloneI_ok (s : List Int) (hl : s.length ≤ 100000) : ∃ (out : List Int), (out = s) ∧ CallOK Try.prog 44 [slI false s] (lookO []) false (.arr 8211) (lookO [(8211, .arr 1 out.length (fI out))]) := by
  refine ⟨s, rfl, ?_⟩
  refine fn_okL [] [(8211, .arr 1 s.length (fI s))] (fn := Try.f44) (nt := 8) Try.func44 rfl rfl (args := [slI false s]) rfl (allcons (.inl ⟨rfl, tagI false _⟩) allnil) (res := .arr 8211) (fun B hB => ?_)
  refine aw_seq ?_
  refine aw_reg [] [0] [] [slI false s] [] [] (by kernel_rfl) hB trivial ?_
  refine ae_then ?_
  refine aw_seq ?_
  refine aw_seq ?_
  refine aw_reg [] [0, 4] [] [slI false s, .nilq s.length] [] [] (by kernel_rfl) hB trivial ?_
  refine ae_then ?_
  refine aw_nilq (n := s.length) rfl (fun h1 => ?_) ?_
  · refine aw_seq ?_
    refine aw_reg [] [2] [] [nilA] [] [] (by kernel_rfl) hB trivial ?_
    refine ae_then ?_
    refine aw_ret ?_
    refine ae_ret_then ?_
    refine ae_nil hB 2 8211 1 (fun _ => []) (by kernel_rfl) ?_
    refine ae_weak hB [] (T := [(2, .arr 8211)]) (O := [(8211, .arr 1 s.length (fI s))]) rfl (⟨.inl rfl, trivial⟩) (⟨.inr ⟨rfl, (by omega), fun i_ hi_ => absurd hi_ (by omega)⟩, trivial⟩) ?_
    refine ae_retL hB [(8211, .arr 1 s.length (fI s))] (⟨.inl rfl, trivial⟩) (.arr 8211) (by kernel_rfl) (.inl rfl) (fun h => by cases h) (fun h => by cases h)
  · refine aw_skip ?_
    refine ae_then ?_
    refine aw_seq ?_
    refine aw_reg [(0, .new 5), (2, .new 7)] [2] [7] [.arr 7] [some (.arr 1 (0 + s.length) (catF 0 (litF [] 1) (fI s)))] [(0 + s.length) * 8 ≤ 140737488355328] (by kernel_rfl) hB ⟨(by omega), trivial⟩ ?_
    refine ae_then ?_
    refine aw_ret ?_
    refine ae_weak hB [(8211, 7)] (T := [(2, .arr 8211)]) (O := [(8211, .arr 1 s.length (fI s))]) rfl (⟨.inl rfl, trivial⟩) (⟨.inr ⟨rfl, (by simp), fun i_ hi_ => .inl (cat_nil i_)⟩, trivial⟩) ?_
    refine ae_retL hB [(8211, .arr 1 s.length (fI s))] (⟨.inl rfl, trivial⟩) (.arr 8211) (by kernel_rfl) (.inl rfl) (fun h => by cases h) (fun h => by cases h)


-- impl.copyPerceptron
theorem copyPerceptron_ok (p : Perceptron) (hb : (p.Labels.length ≤ 100 ∧ p.Weights.length ≤ 100) ∧ ∀ j, j < p.Weights.length → (at_ p.Weights j).length ≤ 100) : ∃ (ls : List ByteArray) (ws : List (List Int)), (ls = p.Labels) ∧ (ws = p.Weights) ∧ CallOK Try.prog 61 [agPerceptron p] (lookO []) false (.agg [.arr 9251, .arr 9252]) (lookO [(9251, .arr 1 ls.length (fS ls)), (9203, .fam ws.length 1 (mLI ws) (gLI ws)), (9252, .oar [9203] 1 ws.length (oLI 9203 ws))]) := by
  have hh : ∃ r : (List ByteArray) × (List (List Int)), ((r.1 = p.Labels) ∧ (r.2 = p.Weights) ∧ (True)) ∧ CallOK Try.prog 61 [agPerceptron p] (lookO []) false (.agg [.arr 9251, .arr 9252]) (lookO [(9251, .arr 1 r.1.length (fS r.1)), (9203, .fam r.2.length 1 (mLI r.2) (gLI r.2)), (9252, .oar [9203] 1 r.2.length (oLI 9203 r.2))]) := by
    refine fn_okX (Φ := fun r : (List ByteArray) × (List (List Int)) => (r.1 = p.Labels) ∧ (r.2 = p.Weights) ∧ (True)) [] (fun r => [(9251, .arr 1 r.1.length (fS r.1)), (9203, .fam r.2.length 1 (mLI r.2) (gLI r.2)), (9252, .oar [9203] 1 r.2.length (oLI 9203 r.2))]) (fn := Try.f61) (nt := 26) Try.func61 rfl rfl (args := [agPerceptron p]) rfl (allcons (.inl ⟨rfl, by simp [tagged, taggedL, tagLI, tagS]⟩) allnil) (res := fun r => .agg [.arr 9251, .arr 9252]) ?_
    refine xR [(0, .new 1), (1, .new 2)] [1, 2] [1, 2] [.ref 1 0, .ref 2 0] [some (bxPerceptron p), some (.box [nilA, nilA])] [] trivial ?_
    refine x_seq ?_
    obtain ⟨out_1, hx1_0, hc1⟩ := cloneS_ok p.Labels (by omega)
    have hcs := hx1_0
    refine x_r [(2, .lend [] [(8511, .arr 1 out_1.length (fS out_1))] [(true, .any)] false (.arr 8511)), (4, .new 3)] [1, 2, 3] [1, 2, 3, 8511] [.ref 1 0, .ref 2 0, .ref 3 0] [some (bxPerceptron p), some (.box [nilA, nilA]), some (.box [.arr 8511, nilA]), some (.arr 1 out_1.length (fS out_1))] [CallOK Try.prog 49 [slS false p.Labels] (lookO []) false (.arr 8511) (lookO [(8511, .arr 1 out_1.length (fS out_1))]) ∧ True] ⟨⟨hc1, trivial⟩, trivial⟩ ?_
    refine xe_then ?_
    refine x_seq ?_
    refine xR [] [2, 3, 11, 12, 13] [2, 3, 8511] [.ref 2 0, .ref 3 0, slLI false p.Weights, I (p.Weights.length : Int), I 0] [some (.box [nilA, nilA]), some (.box [.arr 8511, nilA]), some (.arr 1 out_1.length (fS out_1))] [] trivial ?_
    refine x_block ?_
    refine x_nilC 3 1 731 1 (fun _ => []) rfl (by kernel_rfl) ?_
    refine x_fam 9203 1 (fun _ => 0) (fun _ _ => []) (by kernel_rfl) ?_
    refine x_weak [] (T := [(2, .ref 2 0), (3, .ref 3 0), (11, slLI false p.Weights), (12, I (p.Weights.length : Int)), (13, I 0)]) (O := [(2, .box [nilA, nilA]), (3, .box [.arr 8511, .arr 731]), (731, .oar [9203] 1 (([] : List (List Int)).length) (oLI 9203 ([] : List (List Int)))), (8511, .arr 1 out_1.length (fS out_1)), (9203, .fam ([] : List (List Int)).length 1 (mLI ([] : List (List Int))) (gLI ([] : List (List Int))))]) rfl (⟨.inl rfl, .inl rfl, .inl rfl, .inl rfl, .inl rfl, trivial⟩) (⟨.inl rfl, .inl rfl, .inr ⟨rfl, rfl, fun i hi => absurd hi (Nat.not_lt_zero _)⟩, .inl rfl, .inr ⟨rfl, rfl, fun p hp => absurd hp (Nat.not_lt_zero _)⟩, trivial⟩) ?_
    refine x_loop (X := Int × (List (List Int))) (fun x => mkS [(2, .ref 2 0), (3, .ref 3 0), (11, slLI false p.Weights), (12, I (p.Weights.length : Int)), (13, I x.1)] [(2, .box [nilA, nilA]), (3, .box [.arr 8511, .arr 731]), (731, .oar [9203] 1 x.2.length (oLI 9203 x.2)), (8511, .arr 1 out_1.length (fS out_1)), (9203, .fam x.2.length 1 (mLI x.2) (gLI x.2))]) (fun x => (0 ≤ x.1 ∧ x.1 ≤ (p.Weights.length : Int)) ∧ (x.2 = p.Weights.take x.1.toNat) ∧ ((x.2.length : Int) = x.1) ∧ True) (fun x => ((p.Weights.length : Int) - x.1).toNat) (0, ([] : List (List Int))) rfl (show (0 ≤ (0 : Int) ∧ (0 : Int) ≤ (p.Weights.length : Int)) ∧ (([] : List (List Int)) = p.Weights.take (0 : Int).toNat) ∧ ((([] : List (List Int)).length : Int) = (0 : Int)) ∧ True from ⟨(by omega), (by rfl), (by rfl), trivial⟩) (fun x hI => ?_)
    obtain ⟨t13, ws⟩ := x
    obtain ⟨hi0, hws, hwl, _⟩ : (0 ≤ t13 ∧ t13 ≤ (p.Weights.length : Int)) ∧ (ws = p.Weights.take t13.toNat) ∧ ((ws.length : Int) = t13) ∧ True := hI
    show XW _ _ _ _ (mkS [(2, .ref 2 0), (3, .ref 3 0), (11, slLI false p.Weights), (12, I (p.Weights.length : Int)), (13, I t13)] [(2, .box [nilA, nilA]), (3, .box [.arr 8511, .arr 731]), (731, .oar [9203] 1 ws.length (oLI 9203 ws)), (8511, .arr 1 out_1.length (fS out_1)), (9203, .fam ws.length 1 (mLI ws) (gLI ws))]) _ _
    refine x_seq ?_
    by_cases h1 : t13 < (p.Weights.length : Int)
    ·have hi : t13.toNat < p.Weights.length := by omega
     have hbi := hb.2 t13.toNat hi
     refine x_r [(0, .dec true)] [2, 3, 11, 12, 13, 14] [2, 3, 731, 8511, 9203] [.ref 2 0, .ref 3 0, slLI false p.Weights, I (p.Weights.length : Int), I t13, Bv true] [some (.box [nilA, nilA]), some (.box [.arr 8511, .arr 731]), some (.oar [9203] 1 ws.length (oLI 9203 ws)), some (.arr 1 out_1.length (fS out_1)), some (.fam ws.length 1 (mLI ws) (gLI ws))] [t13 < (p.Weights.length : Int)] ⟨h1, trivial⟩ ?_
     refine xe_then ?_
     refine x_seq ?_
     refine x_true rfl ?_
     refine x_skip ?_
     refine xe_then ?_
     refine x_seq ?_
     refine x_block ?_
     refine xR [] [2, 3, 5, 11, 12, 13] [2, 3, 731, 8511, 9203] [.ref 2 0, .ref 3 0, slI false (at_ p.Weights t13.toNat), slLI false p.Weights, I (p.Weights.length : Int), I t13] [some (.box [nilA, nilA]), some (.box [.arr 8511, .arr 731]), some (.oar [9203] 1 ws.length (oLI 9203 ws)), some (.arr 1 out_1.length (fS out_1)), some (.fam ws.length 1 (mLI ws) (gLI ws))] [(0 : Int) ≤ t13 ∧ t13 < (p.Weights.length : Int)] ⟨⟨(by omega), (by omega)⟩, trivial⟩ ?_
     obtain ⟨out_2, hx2_0, hc2⟩ := cloneI_ok (at_ p.Weights t13.toNat) (by omega)
     have how := hx2_0
     refine x_r [(3, .lend [] [(8211, .arr 1 out_2.length (fI out_2))] [(true, .any)] false (.arr 8211)), (4, .new 21), (5, .new 22)] [2, 3, 11, 12, 13] [2, 3, 22, 8211, 8511, 9203] [.ref 2 0, .ref 3 0, slLI false p.Weights, I (p.Weights.length : Int), I t13] [some (.box [nilA, nilA]), some (.box [.arr 8511, .arr 22]), some (.oar [9203, 8211] 1 (ws.length + 1) (catF ws.length (oLI 9203 ws) (litF [.arr 8211] 1))), some (.arr 1 out_2.length (fI out_2)), some (.arr 1 out_1.length (fS out_1)), some (.fam ws.length 1 (mLI ws) (gLI ws))] [CallOK Try.prog 44 [slI false (at_ p.Weights t13.toNat)] (lookO []) false (.arr 8211) (lookO [(8211, .arr 1 out_2.length (fI out_2))]) ∧ True, (ws.length + 1) * 24 ≤ 140737488355328] ⟨⟨hc2, trivial⟩, (by omega), trivial⟩ ?_
     refine xe_block 1 ?_
     refine xe_then ?_
     refine x_r [] [2, 3, 11, 12, 13] [2, 3, 22, 8211, 8511, 9203] [.ref 2 0, .ref 3 0, slLI false p.Weights, I (p.Weights.length : Int), I (t13 + 1)] [some (.box [nilA, nilA]), some (.box [.arr 8511, .arr 22]), some (.oar [9203, 8211] 1 (ws.length + 1) (catF ws.length (oLI 9203 ws) (litF [.arr 8211] 1))), some (.arr 1 out_2.length (fI out_2)), some (.arr 1 out_1.length (fS out_1)), some (.fam ws.length 1 (mLI ws) (gLI ws))] [inR .i64 (t13 + 1)] ⟨(inR_i64 (by omega) (by omega)), trivial⟩ ?_
     refine xe_join 8211 9203 rfl rfl rfl ?_
     refine xe_weak [(731, 22)] (T := [(2, .ref 2 0), (3, .ref 3 0), (11, slLI false p.Weights), (12, I (p.Weights.length : Int)), (13, I (t13 + 1))]) (O := [(2, .box [nilA, nilA]), (3, .box [.arr 8511, .arr 731]), (731, .oar [9203] 1 ((ws ++ [out_2]).length) (oLI 9203 (ws ++ [out_2]))), (8511, .arr 1 out_1.length (fS out_1)), (9203, .fam (ws ++ [out_2]).length 1 (mLI (ws ++ [out_2])) (gLI (ws ++ [out_2])))]) rfl (⟨.inl rfl, .inl rfl, .inl rfl, .inl rfl, .inl rfl, trivial⟩) (⟨.inl rfl, .inl rfl, .inr ⟨rfl, rfl, (by simp), fun i hi => .inl (ocatLI rfl rfl rfl i hi)⟩, .inl rfl, .inr (fcatLI out_2 (by first | rfl | (simp; done)) (fun i _ => rfl)), trivial⟩) (xe_again ((t13 + 1), (ws ++ [out_2])) rfl (show (0 ≤ (t13 + 1) ∧ (t13 + 1) ≤ (p.Weights.length : Int)) ∧ ((ws ++ [out_2]) = p.Weights.take (t13 + 1).toNat) ∧ (((ws ++ [out_2]).length : Int) = (t13 + 1)) ∧ True from ⟨(by omega), (by rw [hws, how, show (t13 + 1).toNat = t13.toNat + 1 from by omega, take_snoc' hi]), (by simp; omega), trivial⟩) (by first | (show (((p.Weights.length : Int) - (t13 + 1)).toNat : Nat) < ((p.Weights.length : Int) - t13).toNat; omega) | (dsimp only; omega)))
    have hie : t13.toNat = p.Weights.length := by omega
    rw [hie, List.take_of_length_le (Nat.le_refl _)] at hws
    refine x_r [(0, .dec false)] [2, 3, 11, 12, 13, 14] [2, 3, 731, 8511, 9203] [.ref 2 0, .ref 3 0, slLI false p.Weights, I (p.Weights.length : Int), I t13, Bv false] [some (.box [nilA, nilA]), some (.box [.arr 8511, .arr 731]), some (.oar [9203] 1 ws.length (oLI 9203 ws)), some (.arr 1 out_1.length (fS out_1)), some (.fam ws.length 1 (mLI ws) (gLI ws))] [¬ (t13 < (p.Weights.length : Int))] ⟨h1, trivial⟩ ?_
    refine xe_then ?_
    refine x_seq ?_
    refine x_false rfl ?_
    refine x_exit ?_
    refine xe_exit_then ?_
    refine xe_loop_exit ?_
    refine xe_exit_same ?_
    refine xe_then ?_
    refine xR [] [2] [2, 731, 8511, 9203] [.ref 2 0] [some (.box [.arr 8511, .arr 731]), some (.oar [9203] 1 ws.length (oLI 9203 ws)), some (.arr 1 out_1.length (fS out_1)), some (.fam ws.length 1 (mLI ws) (gLI ws))] [] trivial ?_
    refine x_ret ?_
    refine xe_weak [(9251, 8511), (9252, 731)] (T := [(2, .ref 2 0)]) (O := [(2, .box [.arr 9251, .arr 9252]), (9203, .fam ws.length 1 (mLI ws) (gLI ws)), (9251, .arr 1 out_1.length (fS out_1)), (9252, .oar [9203] 1 ws.length (oLI 9203 ws))]) rfl (⟨.inl rfl, trivial⟩) (⟨.inl rfl, .inl rfl, .inl rfl, .inl rfl, trivial⟩) ?_
    refine xe_end (out_1, ws) (show (out_1 = p.Labels) ∧ (ws = p.Weights) ∧ (True) from ⟨(by first | exact hcs | exact hws), (by first | exact hcs | exact hws), trivial⟩) (⟨.inl rfl, .inl rfl, .inl rfl, trivial⟩) (.agg [.arr 9251, .arr 9252]) (by kernel_rfl) (.inl rfl) (fun h => by cases h) (fun h => by cases h)
  obtain ⟨⟨ls, ws⟩, ⟨hh0, hh1, _⟩, hc⟩ := hh
  exact ⟨ls, ws, hh0, hh1, hc⟩


-- impl.floorDiv
theorem floorDiv_ok (n : Int) (d : Int) (hn : (-4611686018427387904 ≤ n ∧ n ≤ 4611686018427387904) ∧ 0 < d) : Con Try.prog 98 [I n, I d] true (I (n / d)) := by
  have hq := tdiv_bd n d
  have hs := down_spec n hn.2
  refine fn_ok (fn := Try.f98) (nt := 16) Try.func98 rfl rfl rfl rfl (by simp [taggedL, tagged]) fun B hB => ?_
  refine aR [] [0, 1] [] [I n, I d] [] [] hB trivial ?_
  refine aR [] [0, 1, 5] [] [I n, I d, I (Int.tdiv n d)] [] [(d : Int) ≠ 0 ∧ inR .i64 (Int.tdiv n d)] hB ⟨⟨by omega, (inR_i64 (by omega) (by omega))⟩, trivial⟩ ?_
  refine aw_seq ?_
  refine aw_seq ?_
  by_cases h1 : (Int.tmod n d) < 0
  ·refine aw_r [(3, .dec true)] [5, 12] [] [I (Int.tdiv n d), Bv true] [] [(d : Int) ≠ 0, (Int.tmod n d) < 0] hB ⟨(by omega), h1, trivial⟩ ?_
   refine ae_then ?_
   refine aw_true rfl ?_
   refine aw_r [] [5] [] [I ((Int.tdiv n d) - 1)] [] [inR .i64 ((Int.tdiv n d) - 1)] hB ⟨(inR_i64 (by omega) (by omega)), trivial⟩ ?_
   refine ae_then ?_
   refine aR [] [4] [] [I ((Int.tdiv n d) - 1)] [] [] hB trivial ?_
   refine aw_ret ?_
   refine ae_ret hB (I ((Int.tdiv n d) - 1)) (by kernel_rfl) (.inl (by refine congrArg I ?_; first | exact hs.1 (by assumption) | exact hs.2 (by assumption))) rfl (fun _ => trivial)
  refine aw_r [(3, .dec false)] [5, 12] [] [I (Int.tdiv n d), Bv false] [] [(d : Int) ≠ 0, ¬ ((Int.tmod n d) < 0)] hB ⟨(by omega), h1, trivial⟩ ?_
  refine ae_then ?_
  refine aw_false rfl ?_
  refine aw_skip ?_
  refine ae_then ?_
  refine aR [] [4] [] [I (Int.tdiv n d)] [] [] hB trivial ?_
  refine aw_ret ?_
  refine ae_ret hB (I (Int.tdiv n d)) (by kernel_rfl) (.inl (by refine congrArg I ?_; first | exact hs.1 (by assumption) | exact hs.2 (by assumption))) rfl (fun _ => trivial)


-- impl.nearestDiv
theorem nearestDiv_ok (n : Int) (d : Int) (hn : (-1000000000000000000 ≤ n ∧ n ≤ 1000000000000000000) ∧ 0 < d ∧ d ≤ 1000000000000000000) : Con Try.prog 73 [I n, I d] true (I (nearI n d)) := by
  have hs := near_spec n hn.2.1
  have hrb := rest_bd n hn.2.1
  have heb := ediv_bd n hn.2.1
  refine fn_ok (fn := Try.f73) (nt := 23) Try.func73 rfl rfl rfl rfl (by simp [taggedL, tagged]) fun B hB => ?_
  refine aR [] [0, 1] [] [I n, I d] [] [] hB trivial ?_
  refine aR [(2, .call [(true, .any), (true, .any)] true (I (n / d)))] [0, 1, 5] [] [I n, I d, I (n / d)] [] [Con Try.prog 98 [I n, I d] true (I (n / d)) ∧ True] hB ⟨⟨(floorDiv_ok n d (by omega)), trivial⟩, trivial⟩ ?_
  refine aw_seq ?_
  refine aR [] [1, 5, 6] [] [I d, I (n / d), I (n - ((n / d) * d))] [] [inR .i64 ((n / d) * d), inR .i64 (n - ((n / d) * d))] hB ⟨(inR_i64 (by omega) (by omega)), (inR_i64 (by omega) (by omega)), trivial⟩ ?_
  refine aw_seq ?_
  by_cases h1 : (d - (n - ((n / d) * d))) ≤ (n - ((n / d) * d))
  ·refine aw_r [(4, .dec true)] [5, 19] [] [I (n / d), Bv true] [] [inR .i64 (d - (n - ((n / d) * d))), (d - (n - ((n / d) * d))) ≤ (n - ((n / d) * d))] hB ⟨(inR_i64 (by omega) (by omega)), h1, trivial⟩ ?_
   refine ae_then ?_
   refine aw_true rfl ?_
   refine aw_r [] [5] [] [I ((n / d) + 1)] [] [inR .i64 ((n / d) + 1)] hB ⟨(inR_i64 (by omega) (by omega)), trivial⟩ ?_
   refine ae_then ?_
   refine aR [] [4] [] [I ((n / d) + 1)] [] [] hB trivial ?_
   refine aw_ret ?_
   refine ae_ret hB (I ((n / d) + 1)) (by kernel_rfl) (.inl (by refine congrArg I ?_; first | exact hs.1 (by assumption) | exact hs.2 (by assumption))) rfl (fun _ => trivial)
  refine aw_r [(4, .dec false)] [5, 19] [] [I (n / d), Bv false] [] [inR .i64 (d - (n - ((n / d) * d))), ¬ ((d - (n - ((n / d) * d))) ≤ (n - ((n / d) * d)))] hB ⟨(inR_i64 (by omega) (by omega)), h1, trivial⟩ ?_
  refine ae_then ?_
  refine aw_false rfl ?_
  refine aw_skip ?_
  refine ae_then ?_
  refine aR [] [4] [] [I (n / d)] [] [] hB trivial ?_
  refine aw_ret ?_
  refine ae_ret hB (I (n / d)) (by kernel_rfl) (.inl (by refine congrArg I ?_; first | exact hs.1 (by assumption) | exact hs.2 (by assumption))) rfl (fun _ => trivial)


-- impl.inputOf
theorem inputOf_ok (feats : List Feat) (hok : okFeats feats 384 = true) : ∃ (v : List Int), (v = inpR feats) ∧ Con Try.prog 37 [slFeat false feats] true (slI true v) := by
  have hfn := okFeats_n hok
  have hh : ∃ r : (List Int), ((r = inpR feats) ∧ (True)) ∧ CallOK Try.prog 37 [slFeat false feats] (lookO []) true (slI true r) (lookO []) := by
    refine fn_okX (Φ := fun r : (List Int) => (r = inpR feats) ∧ (True)) [] (fun r => []) (fn := Try.f37) (nt := 58) Try.func37 rfl rfl (args := [slFeat false feats]) rfl (allcons (.inl ⟨rfl, tagFeat false _⟩) allnil) (res := fun r => slI true r) ?_
    refine xR [] [0] [] [slFeat false feats] [] [] trivial ?_
    refine xR [(0, .new 8)] [0, 3] [8] [slFeat false feats, .arr 8] [some (.arr 1 25 (fun _ => [I 0]))] [(0 : Int) ≤ 25 ∧ (25 : Int) ≤ 25 ∧ (8 : Int) * 25 ≤ 281474976710656 ∧ (25 : Int) ≤ 9223372036854775807] ⟨⟨(by omega), (by omega), (by omega), (by omega)⟩, trivial⟩ ?_
    refine x_seq ?_
    refine xR [] [0, 3, 9, 10, 11] [8] [slFeat false feats, .arr 8, slFeat false feats, I (feats.length : Int), I 0] [some (.arr 1 25 (fun _ => [I 0]))] [] trivial ?_
    refine x_block ?_
    refine x_weak [] (T := [(0, slFeat false feats), (3, .arr 8), (9, slFeat false feats), (10, I (feats.length : Int)), (11, I 0)]) (O := [(8, .arr 1 ((List.replicate 25 (0 : Int)).length) (fI (List.replicate 25 (0 : Int))))]) rfl (⟨.inl rfl, .inl rfl, .inl rfl, .inl rfl, .inl rfl, trivial⟩) (⟨.inr ⟨rfl, (by first | rfl | (simp; done) | (simp; omega) | omega), fun i_ hi_ => .inl (const_enc (enc := cI) rfl i_ hi_)⟩, trivial⟩) ?_
    refine x_loop (X := Int × (List Int)) (fun x => mkS [(0, slFeat false feats), (3, .arr 8), (9, slFeat false feats), (10, I (feats.length : Int)), (11, I x.1)] [(8, .arr 1 x.2.length (fI x.2))]) (fun x => (0 ≤ x.1 ∧ x.1 ≤ (feats.length : Int)) ∧ (x.2 = inpC feats x.1.toNat) ∧ (x.2.length = 25) ∧ True) (fun x => ((feats.length : Int) - x.1).toNat) (0, (List.replicate 25 (0 : Int))) rfl (show (0 ≤ (0 : Int) ∧ (0 : Int) ≤ (feats.length : Int)) ∧ ((List.replicate 25 (0 : Int)) = inpC feats (0 : Int).toNat) ∧ ((List.replicate 25 (0 : Int)).length = 25) ∧ True from ⟨(by omega), (by rfl), (by rfl), trivial⟩) (fun x hI => ?_)
    obtain ⟨t11, ys⟩ := x
    obtain ⟨hi0, hys, hyl, _⟩ : (0 ≤ t11 ∧ t11 ≤ (feats.length : Int)) ∧ (ys = inpC feats t11.toNat) ∧ (ys.length = 25) ∧ True := hI
    show XW _ _ _ _ (mkS [(0, slFeat false feats), (3, .arr 8), (9, slFeat false feats), (10, I (feats.length : Int)), (11, I t11)] [(8, .arr 1 ys.length (fI ys))]) _ _
    refine x_seq ?_
    by_cases h1 : t11 < (feats.length : Int)
    ·have hi : t11.toNat < feats.length := by omega
     have hf := okF_iff.1 (okFeats_at hok hi)
     have hbb : ∀ j_, 0 ≤ at_ ys j_ ∧ at_ ys j_ ≤ 2 * t11 := fun j_ => by rw [hys]; have := inpC_bd feats t11.toNat j_; omega
     have hb1 := hbb (at_ feats t11.toNat).D.toNat
     refine x_r [(0, .dec true)] [0, 3, 9, 10, 11, 12] [8] [slFeat false feats, .arr 8, slFeat false feats, I (feats.length : Int), I t11, Bv true] [some (.arr 1 ys.length (fI ys))] [t11 < (feats.length : Int)] ⟨h1, trivial⟩ ?_
     refine xe_then ?_
     refine x_seq ?_
     refine x_true rfl ?_
     refine x_skip ?_
     refine xe_then ?_
     refine x_seq ?_
     refine x_block ?_
     refine xR [(2, .new 5)] [0, 3, 5, 9, 10, 11] [5, 8] [slFeat false feats, .arr 8, .ref 5 0, slFeat false feats, I (feats.length : Int), I t11] [some (bxFeat (at_ feats t11.toNat)), some (.arr 1 ys.length (fI ys))] [(0 : Int) ≤ t11 ∧ t11 < (feats.length : Int)] ⟨⟨(by omega), (by omega)⟩, trivial⟩ ?_
     refine xR [] [0, 3, 5, 9, 10, 11] [5, 8] [slFeat false feats, .arr 8, .ref 5 0, slFeat false feats, I (feats.length : Int), I t11] [some (bxFeat (at_ feats t11.toNat)), some (.arr 1 ys.length (fun q => bif Nat.beq q (((at_ feats t11.toNat).D).toNat) then [I ((at_ ys (((at_ feats t11.toNat).D).toNat)) + 1)] else (fI ys) q))] [(0 : Int) ≤ ((at_ feats t11.toNat).D) ∧ ((at_ feats t11.toNat).D) < (ys.length : Int), ((at_ feats t11.toNat).D).toNat < ys.length, inR .i64 ((at_ ys (((at_ feats t11.toNat).D).toNat)) + 1), (0 : Int) ≤ ((at_ feats t11.toNat).D) ∧ ((at_ feats t11.toNat).D) < (ys.length : Int), ((at_ feats t11.toNat).D).toNat < ys.length] ⟨⟨(by omega), (by omega)⟩, (by omega), (inR_i64 (by omega) (by omega)), ⟨(by omega), (by omega)⟩, (by omega), trivial⟩ ?_
     refine x_weak [] (T := [(0, slFeat false feats), (3, .arr 8), (5, .ref 5 0), (9, slFeat false feats), (10, I (feats.length : Int)), (11, I t11)]) (O := [(5, bxFeat (at_ feats t11.toNat)), (8, .arr 1 ((ys.set (((at_ feats t11.toNat).D).toNat) ((at_ ys (((at_ feats t11.toNat).D).toNat)) + 1)).length) (fI (ys.set (((at_ feats t11.toNat).D).toNat) ((at_ ys (((at_ feats t11.toNat).D).toNat)) + 1))))]) rfl (⟨.inl rfl, .inl rfl, .inl rfl, .inl rfl, .inl rfl, .inl rfl, trivial⟩) (⟨.inl rfl, .inr ⟨rfl, (by first | rfl | (simp; done) | (simp; omega) | omega), fun i_ hi_ => .inl (upd_enc (enc := cI) rfl i_ hi_)⟩, trivial⟩) ?_
     refine x_r [(3, .nn), (8, .nn)] [0, 3, 9, 10, 11] [8] [slFeat false feats, .arr 8, slFeat false feats, I (feats.length : Int), I t11] [some (.arr 1 ((ys.set (((at_ feats t11.toNat).D).toNat) ((at_ ys (((at_ feats t11.toNat).D).toNat)) + 1)).length) (fun q => bif Nat.beq q (((8 + ((((at_ feats t11.toNat).Y) / 64) * 4)) + (((at_ feats t11.toNat).X) / 64)).toNat) then [I ((at_ (ys.set (((at_ feats t11.toNat).D).toNat) ((at_ ys (((at_ feats t11.toNat).D).toNat)) + 1)) (((8 + ((((at_ feats t11.toNat).Y) / 64) * 4)) + (((at_ feats t11.toNat).X) / 64)).toNat)) + 1)] else (fI (ys.set (((at_ feats t11.toNat).D).toNat) ((at_ ys (((at_ feats t11.toNat).D).toNat)) + 1))) q))] [(0 : Int) ≤ ((at_ feats t11.toNat).Y) ∧ (0 : Int) < 64 ∧ inR .i64 ((at_ feats t11.toNat).Y), inR .i64 ((((at_ feats t11.toNat).Y) / 64) * 4), inR .i64 (8 + ((((at_ feats t11.toNat).Y) / 64) * 4)), (0 : Int) ≤ ((at_ feats t11.toNat).X) ∧ (0 : Int) < 64 ∧ inR .i64 ((at_ feats t11.toNat).X), inR .i64 ((8 + ((((at_ feats t11.toNat).Y) / 64) * 4)) + (((at_ feats t11.toNat).X) / 64)), (0 : Int) ≤ ((8 + ((((at_ feats t11.toNat).Y) / 64) * 4)) + (((at_ feats t11.toNat).X) / 64)) ∧ ((8 + ((((at_ feats t11.toNat).Y) / 64) * 4)) + (((at_ feats t11.toNat).X) / 64)) < (((ys.set (((at_ feats t11.toNat).D).toNat) ((at_ ys (((at_ feats t11.toNat).D).toNat)) + 1)).length : Nat) : Int), ((8 + ((((at_ feats t11.toNat).Y) / 64) * 4)) + (((at_ feats t11.toNat).X) / 64)).toNat < (ys.set (((at_ feats t11.toNat).D).toNat) ((at_ ys (((at_ feats t11.toNat).D).toNat)) + 1)).length, inR .i64 ((at_ (ys.set (((at_ feats t11.toNat).D).toNat) ((at_ ys (((at_ feats t11.toNat).D).toNat)) + 1)) (((8 + ((((at_ feats t11.toNat).Y) / 64) * 4)) + (((at_ feats t11.toNat).X) / 64)).toNat)) + 1), (0 : Int) ≤ ((8 + ((((at_ feats t11.toNat).Y) / 64) * 4)) + (((at_ feats t11.toNat).X) / 64)) ∧ ((8 + ((((at_ feats t11.toNat).Y) / 64) * 4)) + (((at_ feats t11.toNat).X) / 64)) < (((ys.set (((at_ feats t11.toNat).D).toNat) ((at_ ys (((at_ feats t11.toNat).D).toNat)) + 1)).length : Nat) : Int), ((8 + ((((at_ feats t11.toNat).Y) / 64) * 4)) + (((at_ feats t11.toNat).X) / 64)).toNat < (ys.set (((at_ feats t11.toNat).D).toNat) ((at_ ys (((at_ feats t11.toNat).D).toNat)) + 1)).length] ⟨⟨(by omega), (by omega), (inR_i64 (by omega) (by omega))⟩, (inR_i64 (by omega) (by omega)), (inR_i64 (by omega) (by omega)), ⟨(by omega), (by omega), (inR_i64 (by omega) (by omega))⟩, (inR_i64 (by omega) (by omega)), ⟨(by first | omega | (simp only [List.length_set]; omega)), (by first | omega | (simp only [List.length_set]; omega))⟩, (by first | omega | (simp only [List.length_set]; omega)), (by have q1 := hbb (((8 + ((((at_ feats t11.toNat).Y) / 64) * 4)) + (((at_ feats t11.toNat).X) / 64)).toNat); have q2 := hbb (at_ feats t11.toNat).D.toNat; simp only [at_set]; split <;> exact inR_i64 (by omega) (by omega)), ⟨(by first | omega | (simp only [List.length_set]; omega)), (by first | omega | (simp only [List.length_set]; omega))⟩, (by first | omega | (simp only [List.length_set]; omega)), trivial⟩ ?_
     refine xe_block 1 ?_
     refine xe_then ?_
     refine x_weak [] (T := [(0, slFeat false feats), (3, .arr 8), (9, slFeat false feats), (10, I (feats.length : Int)), (11, I t11)]) (O := [(8, .arr 1 (((ys.set (((at_ feats t11.toNat).D).toNat) ((at_ ys (((at_ feats t11.toNat).D).toNat)) + 1)).set (((8 + ((((at_ feats t11.toNat).Y) / 64) * 4)) + (((at_ feats t11.toNat).X) / 64)).toNat) ((at_ (ys.set (((at_ feats t11.toNat).D).toNat) ((at_ ys (((at_ feats t11.toNat).D).toNat)) + 1)) (((8 + ((((at_ feats t11.toNat).Y) / 64) * 4)) + (((at_ feats t11.toNat).X) / 64)).toNat)) + 1)).length) (fI ((ys.set (((at_ feats t11.toNat).D).toNat) ((at_ ys (((at_ feats t11.toNat).D).toNat)) + 1)).set (((8 + ((((at_ feats t11.toNat).Y) / 64) * 4)) + (((at_ feats t11.toNat).X) / 64)).toNat) ((at_ (ys.set (((at_ feats t11.toNat).D).toNat) ((at_ ys (((at_ feats t11.toNat).D).toNat)) + 1)) (((8 + ((((at_ feats t11.toNat).Y) / 64) * 4)) + (((at_ feats t11.toNat).X) / 64)).toNat)) + 1))))]) rfl (⟨.inl rfl, .inl rfl, .inl rfl, .inl rfl, .inl rfl, trivial⟩) (⟨.inr ⟨rfl, (by first | rfl | (simp; done) | (simp; omega) | omega), fun i_ hi_ => .inl (upd_enc (enc := cI) rfl i_ hi_)⟩, trivial⟩) ?_
     refine x_r [] [0, 3, 9, 10, 11] [8] [slFeat false feats, .arr 8, slFeat false feats, I (feats.length : Int), I (t11 + 1)] [some (.arr 1 (((ys.set (((at_ feats t11.toNat).D).toNat) ((at_ ys (((at_ feats t11.toNat).D).toNat)) + 1)).set (((8 + ((((at_ feats t11.toNat).Y) / 64) * 4)) + (((at_ feats t11.toNat).X) / 64)).toNat) ((at_ (ys.set (((at_ feats t11.toNat).D).toNat) ((at_ ys (((at_ feats t11.toNat).D).toNat)) + 1)) (((8 + ((((at_ feats t11.toNat).Y) / 64) * 4)) + (((at_ feats t11.toNat).X) / 64)).toNat)) + 1)).length) (fI ((ys.set (((at_ feats t11.toNat).D).toNat) ((at_ ys (((at_ feats t11.toNat).D).toNat)) + 1)).set (((8 + ((((at_ feats t11.toNat).Y) / 64) * 4)) + (((at_ feats t11.toNat).X) / 64)).toNat) ((at_ (ys.set (((at_ feats t11.toNat).D).toNat) ((at_ ys (((at_ feats t11.toNat).D).toNat)) + 1)) (((8 + ((((at_ feats t11.toNat).Y) / 64) * 4)) + (((at_ feats t11.toNat).X) / 64)).toNat)) + 1))))] [inR .i64 (t11 + 1)] ⟨(inR_i64 (by omega) (by omega)), trivial⟩ ?_
     exact xe_again ((t11 + 1), ((ys.set (((at_ feats t11.toNat).D).toNat) ((at_ ys (((at_ feats t11.toNat).D).toNat)) + 1)).set (((8 + ((((at_ feats t11.toNat).Y) / 64) * 4)) + (((at_ feats t11.toNat).X) / 64)).toNat) ((at_ (ys.set (((at_ feats t11.toNat).D).toNat) ((at_ ys (((at_ feats t11.toNat).D).toNat)) + 1)) (((8 + ((((at_ feats t11.toNat).Y) / 64) * 4)) + (((at_ feats t11.toNat).X) / 64)).toNat)) + 1))) rfl (show (0 ≤ (t11 + 1) ∧ (t11 + 1) ≤ (feats.length : Int)) ∧ (((ys.set (((at_ feats t11.toNat).D).toNat) ((at_ ys (((at_ feats t11.toNat).D).toNat)) + 1)).set (((8 + ((((at_ feats t11.toNat).Y) / 64) * 4)) + (((at_ feats t11.toNat).X) / 64)).toNat) ((at_ (ys.set (((at_ feats t11.toNat).D).toNat) ((at_ ys (((at_ feats t11.toNat).D).toNat)) + 1)) (((8 + ((((at_ feats t11.toNat).Y) / 64) * 4)) + (((at_ feats t11.toNat).X) / 64)).toNat)) + 1)) = inpC feats (t11 + 1).toNat) ∧ (((ys.set (((at_ feats t11.toNat).D).toNat) ((at_ ys (((at_ feats t11.toNat).D).toNat)) + 1)).set (((8 + ((((at_ feats t11.toNat).Y) / 64) * 4)) + (((at_ feats t11.toNat).X) / 64)).toNat) ((at_ (ys.set (((at_ feats t11.toNat).D).toNat) ((at_ ys (((at_ feats t11.toNat).D).toNat)) + 1)) (((8 + ((((at_ feats t11.toNat).Y) / 64) * 4)) + (((at_ feats t11.toNat).X) / 64)).toNat)) + 1)).length = 25) ∧ True from ⟨(by omega), (by rw [inpC_1 hi0.1, ← hys]; rfl), (by simp only [List.length_set]; exact hyl), trivial⟩) (by first | (show (((feats.length : Int) - (t11 + 1)).toNat : Nat) < ((feats.length : Int) - t11).toNat; omega) | (dsimp only; omega))
    have hie : t11.toNat = feats.length := by omega
    rw [hie] at hys
    refine x_r [(0, .dec false)] [0, 3, 9, 10, 11, 12] [8] [slFeat false feats, .arr 8, slFeat false feats, I (feats.length : Int), I t11, Bv false] [some (.arr 1 ys.length (fI ys))] [¬ (t11 < (feats.length : Int))] ⟨h1, trivial⟩ ?_
    refine xe_then ?_
    refine x_seq ?_
    refine x_false rfl ?_
    refine x_exit ?_
    refine xe_exit_then ?_
    refine xe_loop_exit ?_
    refine xe_exit_same ?_
    refine xe_then ?_
    refine xR [] [3, 6] [8] [.arr 8, I (feats.length : Int)] [some (.arr 1 ys.length (fI ys))] [] trivial ?_
    refine x_seq ?_
    refine xR [] [3, 6, 40, 41] [8] [.arr 8, I (feats.length : Int), I (ys.length : Int), I 0] [some (.arr 1 ys.length (fI ys))] [] trivial ?_
    refine x_block ?_
    refine x_loop (X := Int × (List Int)) (fun x => mkS [(3, .arr 8), (6, I (feats.length : Int)), (40, I (ys.length : Int)), (41, I x.1)] [(8, .arr 1 x.2.length (fI x.2))]) (fun x => (0 ≤ x.1 ∧ x.1 ≤ (25 : Int)) ∧ (x.2 = inpN (inpC feats feats.length) (feats.length : Int) x.1.toNat) ∧ (x.2.length = 25) ∧ True) (fun x => ((25 : Int) - x.1).toNat) (0, ys) rfl (show (0 ≤ (0 : Int) ∧ (0 : Int) ≤ (25 : Int)) ∧ (ys = inpN (inpC feats feats.length) (feats.length : Int) (0 : Int).toNat) ∧ (ys.length = 25) ∧ True from ⟨(by omega), (by exact hys), (by exact hyl), trivial⟩) (fun x hI => ?_)
    obtain ⟨t41, zs⟩ := x
    obtain ⟨hj0, hzs, hzl, _⟩ : (0 ≤ t41 ∧ t41 ≤ (25 : Int)) ∧ (zs = inpN (inpC feats feats.length) (feats.length : Int) t41.toNat) ∧ (zs.length = 25) ∧ True := hI
    show XW _ _ _ _ (mkS [(3, .arr 8), (6, I (feats.length : Int)), (40, I (ys.length : Int)), (41, I t41)] [(8, .arr 1 zs.length (fI zs))]) _ _
    refine x_seq ?_
    by_cases h2 : t41 < (ys.length : Int)
    ·have hi2 : t41.toNat < zs.length := by omega
     have hzb := inpC_bd feats feats.length t41.toNat
     have hze : at_ zs t41.toNat = at_ (inpC feats feats.length) t41.toNat := by rw [hzs]; exact (inpN_bd (n := (feats.length : Int)) (by omega) (inpC_bd feats feats.length) t41.toNat t41.toNat).1 (Nat.le_refl _)
     refine x_r [(0, .dec true)] [3, 6, 40, 41, 42] [8] [.arr 8, I (feats.length : Int), I (ys.length : Int), I t41, Bv true] [some (.arr 1 zs.length (fI zs))] [t41 < (ys.length : Int)] ⟨h2, trivial⟩ ?_
     refine xe_then ?_
     refine x_seq ?_
     refine x_true rfl ?_
     refine x_skip ?_
     refine xe_then ?_
     refine x_seq ?_
     refine x_block ?_
     refine xR [] [3, 6, 7, 40, 41] [8] [.arr 8, I (feats.length : Int), I t41, I (ys.length : Int), I t41] [some (.arr 1 zs.length (fI zs))] [] trivial ?_
     refine x_r [(8, .call [(true, .any), (true, .any)] true (I (nearI ((at_ zs t41.toNat) * 256) (feats.length : Int))))] [3, 6, 40, 41] [8] [.arr 8, I (feats.length : Int), I (ys.length : Int), I t41] [some (.arr 1 zs.length (fun q => bif Nat.beq q t41.toNat then [I (nearI ((at_ zs t41.toNat) * 256) (feats.length : Int))] else (fI zs) q))] [(0 : Int) ≤ t41 ∧ t41 < (zs.length : Int), t41.toNat < zs.length, inR .i64 ((at_ zs t41.toNat) * 256), Con Try.prog 73 [I ((at_ zs t41.toNat) * 256), I (feats.length : Int)] true (I (nearI ((at_ zs t41.toNat) * 256) (feats.length : Int))) ∧ True, (0 : Int) ≤ t41 ∧ t41 < (zs.length : Int), t41.toNat < zs.length] ⟨⟨(by omega), (by omega)⟩, (by omega), (inR_i64 (by omega) (by omega)), ⟨(nearestDiv_ok ((at_ zs t41.toNat) * 256) (feats.length : Int) (by omega)), trivial⟩, ⟨(by omega), (by omega)⟩, (by omega), trivial⟩ ?_
     refine xe_block 3 ?_
     refine xe_then ?_
     refine x_weak [] (T := [(3, .arr 8), (6, I (feats.length : Int)), (40, I (ys.length : Int)), (41, I t41)]) (O := [(8, .arr 1 ((zs.set t41.toNat (nearI ((at_ zs t41.toNat) * 256) (feats.length : Int))).length) (fI (zs.set t41.toNat (nearI ((at_ zs t41.toNat) * 256) (feats.length : Int)))))]) rfl (⟨.inl rfl, .inl rfl, .inl rfl, .inl rfl, trivial⟩) (⟨.inr ⟨rfl, (by first | rfl | (simp; done) | (simp; omega) | omega), fun i_ hi_ => .inl (upd_enc (enc := cI) rfl i_ hi_)⟩, trivial⟩) ?_
     refine x_r [] [3, 6, 40, 41] [8] [.arr 8, I (feats.length : Int), I (ys.length : Int), I (t41 + 1)] [some (.arr 1 ((zs.set t41.toNat (nearI ((at_ zs t41.toNat) * 256) (feats.length : Int))).length) (fI (zs.set t41.toNat (nearI ((at_ zs t41.toNat) * 256) (feats.length : Int)))))] [inR .i64 (t41 + 1)] ⟨(inR_i64 (by omega) (by omega)), trivial⟩ ?_
     exact xe_again ((t41 + 1), (zs.set t41.toNat (nearI ((at_ zs t41.toNat) * 256) (feats.length : Int)))) rfl (show (0 ≤ (t41 + 1) ∧ (t41 + 1) ≤ (25 : Int)) ∧ ((zs.set t41.toNat (nearI ((at_ zs t41.toNat) * 256) (feats.length : Int))) = inpN (inpC feats feats.length) (feats.length : Int) (t41 + 1).toNat) ∧ ((zs.set t41.toNat (nearI ((at_ zs t41.toNat) * 256) (feats.length : Int))).length = 25) ∧ True from ⟨(by omega), (by first | (rw [inpN_1 hj0.1, ← hzs]; done) | (rw [inpN_1 hj0.1, ← hzs, Int.mul_comm 256])), (by simp only [List.length_set]; exact hzl), trivial⟩) (by first | (show (((25 : Int) - (t41 + 1)).toNat : Nat) < ((25 : Int) - t41).toNat; omega) | (dsimp only; omega))
    have hie2 : t41.toNat = 25 := by omega
    rw [hie2] at hzs
    refine x_r [(0, .dec false)] [3, 6, 40, 41, 42] [8] [.arr 8, I (feats.length : Int), I (ys.length : Int), I t41, Bv false] [some (.arr 1 zs.length (fI zs))] [¬ (t41 < (ys.length : Int))] ⟨h2, trivial⟩ ?_
    refine xe_then ?_
    refine x_seq ?_
    refine x_false rfl ?_
    refine x_exit ?_
    refine xe_exit_then ?_
    refine xe_loop_exit ?_
    refine xe_exit_same ?_
    refine xe_then ?_
    refine xR [] [3] [8] [.arr 8] [some (.arr 1 zs.length (fun q => bif Nat.beq q 24 then [I 256] else (fI zs) q))] [(0 : Int) ≤ 24 ∧ 24 < (zs.length : Int), 24 < zs.length] ⟨⟨(by omega), (by omega)⟩, (by omega), trivial⟩ ?_
    refine x_seq ?_
    refine x_weak [] (T := [(3, .arr 8)]) (O := [(8, .arr 1 ((zs.set 24 256).length) (fI (zs.set 24 256)))]) rfl (⟨.inl rfl, trivial⟩) (⟨.inr ⟨rfl, (by first | rfl | (simp; done) | (simp; omega) | omega), fun i_ hi_ => .inl (upd_enc (enc := cI) rfl i_ hi_)⟩, trivial⟩) ?_
    refine x_r [] [2] [8] [.arr 8] [some (.arr 1 ((zs.set 24 256).length) (fI (zs.set 24 256)))] [] trivial ?_
    refine xe_then ?_
    refine x_ret ?_
    refine xe_end (zs.set 24 256) (show ((zs.set 24 256) = inpR feats) ∧ (True) from ⟨(by rw [hzs, inpR_alt]), trivial⟩) (trivial) (.arr 8) (by kernel_rfl) (.inr ⟨(fun _ => rfl), rfl, rfl, fun i _ => .inl rfl⟩) (fun _ => rfl) (fun _ => (tagI true _))
  obtain ⟨v, ⟨hh0, _⟩, hc⟩ := hh
  exact ⟨v, hh0, hc⟩


-- impl.scoresOf
theorem scoresOf_ok (p : Perceptron) (input : List Int) (hp : okPerc p = true) (hx : (∀ i, 0 ≤ at_ input i ∧ at_ input i ≤ 512) ∧ input.length = 25) : ∃ (v : List Int), (v = scR p.Weights input) ∧ Con Try.prog 36 [agPerceptron p, slI false input] true (slI true v) := by
  have hq := okPerc_iff.1 hp
  have hln := okLabels_n hq.1
  have hxl := hx.2
  have hh : ∃ r : (List Int), ((r = scR p.Weights input) ∧ (True)) ∧ CallOK Try.prog 36 [agPerceptron p, slI false input] (lookO []) true (slI true r) (lookO []) := by
    refine fn_okX (Φ := fun r : (List Int) => (r = scR p.Weights input) ∧ (True)) [] (fun r => []) (fn := Try.f36) (nt := 40) Try.func36 rfl rfl (args := [agPerceptron p, slI false input]) rfl (allcons (.inl ⟨rfl, by simp [tagged, taggedL, tagLI, tagS]⟩) (allcons (.inl ⟨rfl, tagI false _⟩) allnil)) (res := fun r => slI true r) ?_
    refine xR [(0, .new 2)] [1, 2] [2] [slI false input, .ref 2 0] [some (bxPerceptron p)] [] trivial ?_
    refine xR [] [1, 2, 5] [2] [slI false input, .ref 2 0, nilA] [some (bxPerceptron p)] [] trivial ?_
    refine x_seq ?_
    refine xR [] [1, 5, 12, 13, 14] [] [slI false input, nilA, slLI false p.Weights, I (p.Weights.length : Int), I 0] [] [] trivial ?_
    refine x_block ?_
    refine x_nil 5 705 1 (fun _ => []) (by kernel_rfl) ?_
    refine x_weak [] (T := [(1, slI false input), (5, .arr 705), (12, slLI false p.Weights), (13, I (p.Weights.length : Int)), (14, I 0)]) (O := [(705, .arr 1 (([] : List Int).length) (fI ([] : List Int)))]) rfl (⟨.inl rfl, .inl rfl, .inl rfl, .inl rfl, .inl rfl, trivial⟩) (⟨.inr ⟨rfl, (by first | rfl | (simp; done) | (simp; omega) | omega), fun i_ hi_ => absurd hi_ (Nat.not_lt_zero _)⟩, trivial⟩) ?_
    refine x_loop (X := (List Int) × Int) (fun x => mkS [(1, slI false input), (5, .arr 705), (12, slLI false p.Weights), (13, I (p.Weights.length : Int)), (14, I x.2)] [(705, .arr 1 x.1.length (fI x.1))]) (fun x => (0 ≤ x.2 ∧ x.2 ≤ (p.Weights.length : Int)) ∧ (x.1 = (p.Weights.take x.2.toNat).map fun r => scT r input 25) ∧ ((x.1.length : Int) = x.2) ∧ True) (fun x => ((p.Weights.length : Int) - x.2).toNat) (([] : List Int), 0) rfl (show (0 ≤ (0 : Int) ∧ (0 : Int) ≤ (p.Weights.length : Int)) ∧ (([] : List Int) = (p.Weights.take (0 : Int).toNat).map fun r => scT r input 25) ∧ ((([] : List Int).length : Int) = (0 : Int)) ∧ True from ⟨(by omega), (by rfl), (by rfl), trivial⟩) (fun x hI => ?_)
    obtain ⟨scores, t14⟩ := x
    obtain ⟨hi0, hsc, hsl, _⟩ : (0 ≤ t14 ∧ t14 ≤ (p.Weights.length : Int)) ∧ (scores = (p.Weights.take t14.toNat).map fun r => scT r input 25) ∧ ((scores.length : Int) = t14) ∧ True := hI
    show XW _ _ _ _ (mkS [(1, slI false input), (5, .arr 705), (12, slLI false p.Weights), (13, I (p.Weights.length : Int)), (14, I t14)] [(705, .arr 1 scores.length (fI scores))]) _ _
    refine x_seq ?_
    by_cases h1 : t14 < (p.Weights.length : Int)
    ·have hi : t14.toNat < p.Weights.length := by omega
     have hr := okRows_at hq.2.2 hi
     refine x_r [(0, .dec true)] [1, 5, 12, 13, 14, 15] [705] [slI false input, .arr 705, slLI false p.Weights, I (p.Weights.length : Int), I t14, Bv true] [some (.arr 1 scores.length (fI scores))] [t14 < (p.Weights.length : Int)] ⟨h1, trivial⟩ ?_
     refine xe_then ?_
     refine x_seq ?_
     refine x_true rfl ?_
     refine x_skip ?_
     refine xe_then ?_
     refine x_seq ?_
     refine x_block ?_
     refine xR [] [1, 5, 7, 12, 13, 14] [705] [slI false input, .arr 705, slI false (at_ p.Weights t14.toNat), slLI false p.Weights, I (p.Weights.length : Int), I t14] [some (.arr 1 scores.length (fI scores))] [(0 : Int) ≤ t14 ∧ t14 < (p.Weights.length : Int)] ⟨⟨(by omega), (by omega)⟩, trivial⟩ ?_
     refine xR [] [1, 5, 7, 8, 12, 13, 14] [705] [slI false input, .arr 705, slI false (at_ p.Weights t14.toNat), I 0, slLI false p.Weights, I (p.Weights.length : Int), I t14] [some (.arr 1 scores.length (fI scores))] [] trivial ?_
     refine x_seq ?_
     refine xR [] [1, 5, 8, 12, 13, 14, 18, 19, 20] [705] [slI false input, .arr 705, I 0, slLI false p.Weights, I (p.Weights.length : Int), I t14, slI false (at_ p.Weights t14.toNat), I (((at_ p.Weights t14.toNat).length) : Int), I 0] [some (.arr 1 scores.length (fI scores))] [] trivial ?_
     refine x_block ?_
     refine x_loop (X := Int × Int) (fun x => mkS [(1, slI false input), (5, .arr 705), (8, I x.1), (12, slLI false p.Weights), (13, I (p.Weights.length : Int)), (14, I t14), (18, slI false (at_ p.Weights t14.toNat)), (19, I (((at_ p.Weights t14.toNat).length) : Int)), (20, I x.2)] [(705, .arr 1 scores.length (fI scores))]) (fun x => (0 ≤ x.2 ∧ x.2 ≤ 25) ∧ (x.1 = scT (at_ p.Weights t14.toNat) input x.2.toNat) ∧ True) (fun x => ((25 : Int) - x.2).toNat) (0, 0) rfl (show (0 ≤ (0 : Int) ∧ (0 : Int) ≤ 25) ∧ ((0 : Int) = scT (at_ p.Weights t14.toNat) input (0 : Int).toNat) ∧ True from ⟨(by omega), (by rfl), trivial⟩) (fun x hI => ?_)
     obtain ⟨sum, t20⟩ := x
     obtain ⟨hk0, hsum, _⟩ : (0 ≤ t20 ∧ t20 ≤ 25) ∧ (sum = scT (at_ p.Weights t14.toNat) input t20.toNat) ∧ True := hI
     show XW _ _ _ _ (mkS [(1, slI false input), (5, .arr 705), (8, I sum), (12, slLI false p.Weights), (13, I (p.Weights.length : Int)), (14, I t14), (18, slI false (at_ p.Weights t14.toNat)), (19, I (((at_ p.Weights t14.toNat).length) : Int)), (20, I t20)] [(705, .arr 1 scores.length (fI scores))]) _ _
     refine x_seq ?_
     by_cases h2 : t20 < (((at_ p.Weights t14.toNat).length) : Int)
     ·have hk : t20.toNat < 25 := by omega
      have hrk := hr.2 t20.toNat hk
      have hxk := hx.1 t20.toNat
      have hmx := mulX_bd hrk hxk
      have hsb := scT_bd hr.2 hx.1 t20.toNat (by omega)
      refine x_r [(0, .dec true)] [1, 5, 8, 12, 13, 14, 18, 19, 20, 21] [705] [slI false input, .arr 705, I sum, slLI false p.Weights, I (p.Weights.length : Int), I t14, slI false (at_ p.Weights t14.toNat), I (((at_ p.Weights t14.toNat).length) : Int), I t20, Bv true] [some (.arr 1 scores.length (fI scores))] [t20 < (((at_ p.Weights t14.toNat).length) : Int)] ⟨h2, trivial⟩ ?_
      refine xe_then ?_
      refine x_seq ?_
      refine x_true rfl ?_
      refine x_skip ?_
      refine xe_then ?_
      refine x_seq ?_
      refine x_block ?_
      refine xR [] [1, 5, 8, 9, 10, 12, 13, 14, 18, 19, 20] [705] [slI false input, .arr 705, I sum, I t20, I (at_ (at_ p.Weights t14.toNat) t20.toNat), slLI false p.Weights, I (p.Weights.length : Int), I t14, slI false (at_ p.Weights t14.toNat), I (((at_ p.Weights t14.toNat).length) : Int), I t20] [some (.arr 1 scores.length (fI scores))] [(0 : Int) ≤ t20 ∧ t20 < (((at_ p.Weights t14.toNat).length) : Int)] ⟨⟨(by omega), (by omega)⟩, trivial⟩ ?_
      refine x_r [] [1, 5, 8, 12, 13, 14, 18, 19, 20] [705] [slI false input, .arr 705, I (sum + ((at_ (at_ p.Weights t14.toNat) t20.toNat) * (at_ input t20.toNat))), slLI false p.Weights, I (p.Weights.length : Int), I t14, slI false (at_ p.Weights t14.toNat), I (((at_ p.Weights t14.toNat).length) : Int), I t20] [some (.arr 1 scores.length (fI scores))] [(0 : Int) ≤ t20 ∧ t20 < (input.length : Int), inR .i64 ((at_ (at_ p.Weights t14.toNat) t20.toNat) * (at_ input t20.toNat)), inR .i64 (sum + ((at_ (at_ p.Weights t14.toNat) t20.toNat) * (at_ input t20.toNat)))] ⟨⟨(by omega), (by omega)⟩, (inR_i64 (by omega) (by omega)), (inR_i64 (by omega) (by omega)), trivial⟩ ?_
      refine xe_block 3 ?_
      refine xe_then ?_
      refine x_r [] [1, 5, 8, 12, 13, 14, 18, 19, 20] [705] [slI false input, .arr 705, I (sum + ((at_ (at_ p.Weights t14.toNat) t20.toNat) * (at_ input t20.toNat))), slLI false p.Weights, I (p.Weights.length : Int), I t14, slI false (at_ p.Weights t14.toNat), I (((at_ p.Weights t14.toNat).length) : Int), I (t20 + 1)] [some (.arr 1 scores.length (fI scores))] [inR .i64 (t20 + 1)] ⟨(inR_i64 (by omega) (by omega)), trivial⟩ ?_
      exact xe_again ((sum + ((at_ (at_ p.Weights t14.toNat) t20.toNat) * (at_ input t20.toNat))), (t20 + 1)) rfl (show (0 ≤ (t20 + 1) ∧ (t20 + 1) ≤ 25) ∧ ((sum + ((at_ (at_ p.Weights t14.toNat) t20.toNat) * (at_ input t20.toNat))) = scT (at_ p.Weights t14.toNat) input (t20 + 1).toNat) ∧ True from ⟨(by omega), (by rw [scT_1 hk0.1, ← hsum]), trivial⟩) (by first | (show (((25 : Int) - (t20 + 1)).toNat : Nat) < ((25 : Int) - t20).toNat; omega) | (dsimp only; omega))
     have hie2 : t20.toNat = 25 := by omega
     rw [hie2] at hsum
     refine x_r [(0, .dec false)] [1, 5, 8, 12, 13, 14, 18, 19, 20, 21] [705] [slI false input, .arr 705, I sum, slLI false p.Weights, I (p.Weights.length : Int), I t14, slI false (at_ p.Weights t14.toNat), I (((at_ p.Weights t14.toNat).length) : Int), I t20, Bv false] [some (.arr 1 scores.length (fI scores))] [¬ (t20 < (((at_ p.Weights t14.toNat).length) : Int))] ⟨h2, trivial⟩ ?_
     refine xe_then ?_
     refine x_seq ?_
     refine x_false rfl ?_
     refine x_exit ?_
     refine xe_exit_then ?_
     refine xe_loop_exit ?_
     refine xe_exit_same ?_
     refine xe_then ?_
     refine x_r [(2, .new 36), (3, .new 37)] [1, 5, 12, 13, 14] [37] [slI false input, .arr 37, slLI false p.Weights, I (p.Weights.length : Int), I t14] [some (.arr 1 (scores.length + 1) (catF scores.length (fI scores) (litF [I sum] 1)))] [(scores.length + 1) * 8 ≤ 140737488355328] ⟨(by omega), trivial⟩ ?_
     refine xe_block 1 ?_
     refine xe_then ?_
     refine x_r [] [1, 5, 12, 13, 14] [37] [slI false input, .arr 37, slLI false p.Weights, I (p.Weights.length : Int), I (t14 + 1)] [some (.arr 1 (scores.length + 1) (catF scores.length (fI scores) (litF [I sum] 1)))] [inR .i64 (t14 + 1)] ⟨(inR_i64 (by omega) (by omega)), trivial⟩ ?_
     refine xe_weak [(705, 37)] (T := [(1, slI false input), (5, .arr 705), (12, slLI false p.Weights), (13, I (p.Weights.length : Int)), (14, I (t14 + 1))]) (O := [(705, .arr 1 ((scores ++ [sum]).length) (fI (scores ++ [sum])))]) rfl (⟨.inl rfl, .inl rfl, .inl rfl, .inl rfl, .inl rfl, trivial⟩) (⟨.inr ⟨rfl, (by first | rfl | (simp; done) | (simp; omega) | omega), fun i_ hi_ => .inl (cat_snoc (enc := cI) (xs := scores) rfl i_ hi_)⟩, trivial⟩) (xe_again ((scores ++ [sum]), (t14 + 1)) rfl (show (0 ≤ (t14 + 1) ∧ (t14 + 1) ≤ (p.Weights.length : Int)) ∧ ((scores ++ [sum]) = (p.Weights.take (t14 + 1).toNat).map fun r => scT r input 25) ∧ (((scores ++ [sum]).length : Int) = (t14 + 1)) ∧ True from ⟨(by omega), (by rw [scR_take hi0.1 hi, ← hsc, ← hsum]), (by simp; omega), trivial⟩) (by first | (show (((p.Weights.length : Int) - (t14 + 1)).toNat : Nat) < ((p.Weights.length : Int) - t14).toNat; omega) | (dsimp only; omega)))
    have hie : t14.toNat = p.Weights.length := by omega
    rw [hie, List.take_of_length_le (Nat.le_refl _)] at hsc
    refine x_r [(0, .dec false)] [1, 5, 12, 13, 14, 15] [705] [slI false input, .arr 705, slLI false p.Weights, I (p.Weights.length : Int), I t14, Bv false] [some (.arr 1 scores.length (fI scores))] [¬ (t14 < (p.Weights.length : Int))] ⟨h1, trivial⟩ ?_
    refine xe_then ?_
    refine x_seq ?_
    refine x_false rfl ?_
    refine x_exit ?_
    refine xe_exit_then ?_
    refine xe_loop_exit ?_
    refine xe_exit_same ?_
    refine xe_then ?_
    refine xR [] [4] [705] [.arr 705] [some (.arr 1 scores.length (fI scores))] [] trivial ?_
    refine x_ret ?_
    refine xe_end scores (show (scores = scR p.Weights input) ∧ (True) from ⟨(by exact hsc), trivial⟩) (trivial) (.arr 705) (by kernel_rfl) (.inr ⟨(fun _ => rfl), rfl, rfl, fun i _ => .inl rfl⟩) (fun _ => rfl) (fun _ => (tagI true _))
  obtain ⟨v, ⟨hh0, _⟩, hc⟩ := hh
  exact ⟨v, hh0, hc⟩


-- slices.Max[[]int64,int64]
theorem maxI_ok (xl : List Int) (hl : 1 ≤ xl.length ∧ xl.length ≤ 1000) : ∃ (v : Int), (isMx xl (xl.length : Int) v) ∧ Con Try.prog 45 [slI false xl] true (I v) := by
  have hh : ∃ r : Int, ((isMx xl (xl.length : Int) r) ∧ (True)) ∧ CallOK Try.prog 45 [slI false xl] (lookO []) true (I r) (lookO []) := by
    refine fn_okX (Φ := fun r : Int => (isMx xl (xl.length : Int) r) ∧ (True)) [] (fun r => []) (fn := Try.f45) (nt := 25) Try.func45 rfl rfl (args := [slI false xl]) rfl (allcons (.inl ⟨rfl, tagI false _⟩) allnil) (res := fun r => I r) ?_
    refine xR [] [0] [] [slI false xl] [] [] trivial ?_
    refine x_seq ?_
    refine xR [(2, .dec false)] [0, 7] [] [slI false xl, Bv false] [] [¬ ((xl.length : Int) < 1)] ⟨(by omega), trivial⟩ ?_
    refine x_false rfl ?_
    refine x_skip ?_
    refine xe_then ?_
    refine xR [] [0, 3] [] [slI false xl, I (at_ xl 0)] [] [(0 : Int) ≤ 0 ∧ 0 < (xl.length : Int)] ⟨⟨(by omega), (by omega)⟩, trivial⟩ ?_
    refine x_seq ?_
    refine xR [] [0, 3, 4] [] [slI false xl, I (at_ xl 0), I 1] [] [] trivial ?_
    refine x_block ?_
    refine x_loop (X := Int × Int) (fun x => mkS [(0, slI false xl), (3, I x.1), (4, I x.2)] []) (fun x => (1 ≤ x.2 ∧ x.2 ≤ (xl.length : Int)) ∧ (isMx xl x.2 x.1) ∧ True) (fun x => ((xl.length : Int) - x.2).toNat) ((at_ xl 0), 1) rfl (show (1 ≤ (1 : Int) ∧ (1 : Int) ≤ (xl.length : Int)) ∧ (isMx xl (1 : Int) (at_ xl 0)) ∧ True from ⟨(by omega), (by exact isMx_1 xl), trivial⟩) (fun x hI => ?_)
    obtain ⟨m, i⟩ := x
    obtain ⟨hi0, hmx, _⟩ : (1 ≤ i ∧ i ≤ (xl.length : Int)) ∧ (isMx xl i m) ∧ True := hI
    show XW _ _ _ _ (mkS [(0, slI false xl), (3, I m), (4, I i)] []) _ _
    refine x_seq ?_
    refine x_seq ?_
    by_cases h1 : i < (xl.length : Int)
    ·have hi : i.toNat < xl.length := by omega
     refine x_r [(3, .dec true)] [0, 3, 4, 15] [] [slI false xl, I m, I i, Bv true] [] [i < (xl.length : Int)] ⟨h1, trivial⟩ ?_
     refine xe_then ?_
     refine x_true rfl ?_
     refine x_skip ?_
     refine xe_then ?_
     refine x_seq ?_
     refine x_block ?_
     refine x_r [] [0, 3, 4] [] [slI false xl, I (max m (at_ xl i.toNat)), I i] [] [(0 : Int) ≤ i ∧ i < (xl.length : Int)] ⟨⟨(by omega), (by omega)⟩, trivial⟩ ?_
     refine xe_block 1 ?_
     refine xe_then ?_
     refine x_r [] [0, 3, 4] [] [slI false xl, I (max m (at_ xl i.toNat)), I (i + 1)] [] [inR .i64 (i + 1)] ⟨(inR_i64 (by omega) (by omega)), trivial⟩ ?_
     exact xe_again ((max m (at_ xl i.toNat)), (i + 1)) rfl (show (1 ≤ (i + 1) ∧ (i + 1) ≤ (xl.length : Int)) ∧ (isMx xl (i + 1) (max m (at_ xl i.toNat))) ∧ True from ⟨(by omega), (by exact isMx_next (by omega) hmx), trivial⟩) (by first | (show (((xl.length : Int) - (i + 1)).toNat : Nat) < ((xl.length : Int) - i).toNat; omega) | (dsimp only; omega))
    rw [show i = (xl.length : Int) from by omega] at hmx
    refine x_r [(3, .dec false)] [0, 3, 4, 15] [] [slI false xl, I m, I i, Bv false] [] [¬ (i < (xl.length : Int))] ⟨h1, trivial⟩ ?_
    refine xe_then ?_
    refine x_false rfl ?_
    refine x_exit ?_
    refine xe_exit_then ?_
    refine xe_loop_exit ?_
    refine xe_exit_same ?_
    refine xe_then ?_
    refine xR [] [2] [] [I m] [] [] trivial ?_
    refine x_ret ?_
    refine xe_end m (show (isMx xl (xl.length : Int) m) ∧ (True) from ⟨(by exact hmx), trivial⟩) (trivial) (I m) (by kernel_rfl) (.inl rfl) (fun _ => rfl) (fun _ => trivial)
  obtain ⟨v, ⟨hh0, _⟩, hc⟩ := hh
  exact ⟨v, hh0, hc⟩


-- slices.Index[[]int64,int64]
theorem indexI_ok (s : List Int) (v : Int) : Con Try.prog 76 [slI false s, I v] true (I (firstN s.length (fun j => decide (at_ s j = v)))) := by
  refine fn_ok (fn := Try.f76) (nt := 19) Try.func76 rfl rfl rfl rfl (by simp [taggedL, tagged, tagI]) fun B hB => ?_
  refine aw_lens (x := slI false s) 0 rfl (fun len_s => ?_)
  simp [LenOK, LenL, cI, fI, slI] at len_s
  refine aR [] [0, 1] [] [slI false s, I v] [] [] hB trivial ?_
  refine aw_seq ?_
  refine aR [] [0, 1, 7, 8] [] [slI false s, I v, I (s.length : Int), I 0] [] [] hB trivial ?_
  refine aw_block ?_
  refine aw_loop (fun gn gσ => ∃ (t8 : Int), gn = ((s.length : Int) - t8).toNat ∧ (0 ≤ t8 ∧ t8 ≤ (s.length : Int)) ∧ (∀ j : Nat, (j : Int) < t8 → ¬ at_ s j = v) ∧ gσ = mkS [(0, slI false s), (1, I v), (7, I (s.length : Int)), (8, I t8)] []) (((s.length : Int) - 0).toNat) ⟨0, rfl, (by omega), (by intro j hj; omega), rfl⟩ (fun gn gσ hI => ?_)
  obtain ⟨t8, rfl, hi0, hne, rfl⟩ := hI
  refine aw_seq ?_
  by_cases h1 : t8 < (s.length : Int)
  ·have hi : t8.toNat < s.length := by omega
   refine aw_r [(0, .dec true)] [0, 1, 7, 8, 9] [] [slI false s, I v, I (s.length : Int), I t8, Bv true] [] [t8 < (s.length : Int)] hB ⟨h1, trivial⟩ ?_
   refine ae_then ?_
   refine aw_seq ?_
   refine aw_true rfl ?_
   refine aw_skip ?_
   refine ae_then ?_
   refine aw_seq ?_
   refine aw_block ?_
   refine aR [] [0, 1, 5, 7, 8] [] [slI false s, I v, I t8, I (s.length : Int), I t8] [] [] hB trivial ?_
   refine aw_seq ?_
   by_cases h2 : v = (at_ s t8.toNat)
   ·have hfin : firstN s.length (fun j => decide (at_ s j = v)) = t8.toNat := firstN_hit hi (decide_eq_true (Eq.symm h2)) (fun j hj => decide_eq_false (hne j (by omega)))
    refine aw_r [(5, .dec true)] [0, 1, 5, 7, 8, 16] [] [slI false s, I v, I t8, I (s.length : Int), I t8, Bv true] [] [(0 : Int) ≤ t8 ∧ t8 < (s.length : Int), v = (at_ s t8.toNat)] hB ⟨⟨(by omega), (by omega)⟩, h2, trivial⟩ ?_
    refine ae_then ?_
    refine aw_true rfl ?_
    refine aR [] [4] [] [I t8] [] [] hB trivial ?_
    refine aw_ret ?_
    refine ae_ret_block (ae_ret_then (ae_ret_then (ae_ret_block (ae_ret_then ?_))))
    refine ae_ret hB (I t8) (by kernel_rfl) (.inl (by refine congrArg I ?_; first | (rw [hfin]; done) | (rw [hfin]; omega))) rfl (fun _ => trivial)
   have hno : ¬ at_ s t8.toNat = v := fun q => h2 q.symm
   refine aw_r [(5, .dec false)] [0, 1, 5, 7, 8, 16] [] [slI false s, I v, I t8, I (s.length : Int), I t8, Bv false] [] [(0 : Int) ≤ t8 ∧ t8 < (s.length : Int), ¬ (v = (at_ s t8.toNat))] hB ⟨⟨(by omega), (by omega)⟩, h2, trivial⟩ ?_
   refine ae_then ?_
   refine aw_false rfl ?_
   refine aw_skip ?_
   refine ae_block 1 ?_
   refine ae_then ?_
   refine aw_r [] [0, 1, 7, 8] [] [slI false s, I v, I (s.length : Int), I (t8 + 1)] [] [inR .i64 (t8 + 1)] hB ⟨(inR_i64 (by omega) (by omega)), trivial⟩ ?_
   exact ae_again _ (by omega) ⟨(t8 + 1), rfl, (by omega), (by intro j hj; by_cases ej : j = t8.toNat; (subst ej; exact hno); exact hne j (by omega)), rfl⟩
  have hfin : firstN s.length (fun j => decide (at_ s j = v)) = -1 := firstN_none (fun j hj => decide_eq_false (hne j (by omega)))
  refine aw_r [(0, .dec false)] [0, 1, 7, 8, 9] [] [slI false s, I v, I (s.length : Int), I t8, Bv false] [] [¬ (t8 < (s.length : Int))] hB ⟨h1, trivial⟩ ?_
  refine ae_then ?_
  refine aw_seq ?_
  refine aw_false rfl ?_
  refine aw_exit ?_
  refine ae_exit_then ?_
  refine ae_exit_then ?_
  refine ae_exit_same ?_
  refine ae_then ?_
  refine aR [] [4] [] [I (-1)] [] [] hB trivial ?_
  refine aw_ret ?_
  refine ae_ret hB (I (-1)) (by kernel_rfl) (.inl (by refine congrArg I ?_; first | (rw [hfin]; done) | (rw [hfin]; omega))) rfl (fun _ => trivial)


-- impl.winner
theorem winner_ok (scores : List Int) (hl : 1 ≤ scores.length ∧ scores.length ≤ 1000) : Con Try.prog 42 [slI false scores] true (I (bstI scores)) := by
  refine fn_ok (fn := Try.f42) (nt := 7) Try.func42 rfl rfl rfl rfl (by simp [taggedL, tagged, tagI]) fun B hB => ?_
  refine aw_lens (x := slI false scores) 0 rfl (fun len_scores => ?_)
  simp [LenOK, LenL, cI, fI, slI] at len_scores
  refine aR [] [0] [] [slI false scores] [] [] hB trivial ?_
  refine aw_seq ?_
  obtain ⟨v_1, hx1_0, hc1⟩ := maxI_ok scores hl
  refine aw_r [(2, .call [(true, .any)] true (I v_1)), (3, .call [(true, .any), (true, .any)] true (I (firstN scores.length (fun j => decide (at_ scores j = v_1)))))] [2] [] [I (firstN scores.length (fun j => decide (at_ scores j = v_1)))] [] [Con Try.prog 45 [slI false scores] true (I v_1) ∧ True, Con Try.prog 76 [slI false scores, I v_1] true (I (firstN scores.length (fun j => decide (at_ scores j = v_1)))) ∧ True] hB ⟨⟨hc1, trivial⟩, ⟨(indexI_ok scores v_1), trivial⟩, trivial⟩ ?_
  refine ae_then ?_
  refine aw_ret ?_
  refine ae_ret hB (I (firstN scores.length (fun j => decide (at_ scores j = v_1)))) (by kernel_rfl) (.inl (by exact congrArg I (bst_win hl.1 hx1_0))) rfl (fun _ => trivial)


-- impl.train
theorem train_ok (p : Perceptron) (s : Sample) (hp : okPerc p = true) (hs : s.Label ∈ p.Labels) (hf : okFeats s.Feats 384 = true) : ∃ (ch : Bool) (p_Labels : List ByteArray) (p_Weights : List (List Int)), (p_Labels = p.Labels) ∧ ((p_Weights, ch) = trnR p s) ∧ CallOK Try.prog 87 [.agg [.arr 9241, .arr 9242], agSample s] (lookO [(9241, .arr 1 p.Labels.length (fS p.Labels)), (9203, .fam p.Weights.length 1 (mLI p.Weights) (gLI p.Weights)), (9242, .oar [9203] 1 p.Weights.length (oLI 9203 p.Weights))]) true (Bv ch) (lookO [(9241, .arr 1 p_Labels.length (fS p_Labels)), (9203, .fam p_Weights.length 1 (mLI p_Weights) (gLI p_Weights)), (9242, .oar [9203] 1 p_Weights.length (oLI 9203 p_Weights))]) := by
  have hq := okPerc_iff.1 hp
  have hpn := okP_n hp
  have hfi := fndL_in hs
  have hh : ∃ r : Bool × (List ByteArray) × (List (List Int)), ((r.2.1 = p.Labels) ∧ ((r.2.2, r.1) = trnR p s) ∧ (True)) ∧ CallOK Try.prog 87 [.agg [.arr 9241, .arr 9242], agSample s] (lookO [(9241, .arr 1 p.Labels.length (fS p.Labels)), (9203, .fam p.Weights.length 1 (mLI p.Weights) (gLI p.Weights)), (9242, .oar [9203] 1 p.Weights.length (oLI 9203 p.Weights))]) true (Bv r.1) (lookO [(9241, .arr 1 r.2.1.length (fS r.2.1)), (9203, .fam r.2.2.length 1 (mLI r.2.2) (gLI r.2.2)), (9242, .oar [9203] 1 r.2.2.length (oLI 9203 r.2.2))]) := by
    refine fn_okX (Φ := fun r : Bool × (List ByteArray) × (List (List Int)) => (r.2.1 = p.Labels) ∧ ((r.2.2, r.1) = trnR p s) ∧ (True)) [(9241, .arr 1 p.Labels.length (fS p.Labels)), (9203, .fam p.Weights.length 1 (mLI p.Weights) (gLI p.Weights)), (9242, .oar [9203] 1 p.Weights.length (oLI 9203 p.Weights))] (fun r => [(9241, .arr 1 r.2.1.length (fS r.2.1)), (9203, .fam r.2.2.length 1 (mLI r.2.2) (gLI r.2.2)), (9242, .oar [9203] 1 r.2.2.length (oLI 9203 r.2.2))]) (fn := Try.f87) (nt := 55) Try.func87 rfl rfl (args := [.agg [.arr 9241, .arr 9242], agSample s]) rfl (allcons (.inr (by simp [tagged, taggedL])) (allcons (.inl ⟨rfl, by simp [tagged, taggedL, tagFeat]⟩) allnil)) (res := fun r => Bv r.1) ?_
    refine xR [(0, .new 2), (1, .new 3)] [2, 3] [2, 3, 9203, 9241, 9242] [.ref 2 0, .ref 3 0] [some (.box [.arr 9241, .arr 9242]), some (bxSample s), some (.fam p.Weights.length 1 (mLI p.Weights) (gLI p.Weights)), some (.arr 1 p.Labels.length (fS p.Labels)), some (.oar [9203] 1 p.Weights.length (oLI 9203 p.Weights))] [] trivial ?_
    refine x_seq ?_
    obtain ⟨v_1, hx1_0, hc1⟩ := inputOf_ok s.Feats hf
    have hinp := inp_ok hf hx1_0
    have hiv := hx1_0
    have hil := hinp.2
    refine x_r [(2, .call [(true, .any)] true (slI true v_1))] [2, 3, 5] [2, 3, 9203, 9241, 9242] [.ref 2 0, .ref 3 0, slI true v_1] [some (.box [.arr 9241, .arr 9242]), some (bxSample s), some (.fam p.Weights.length 1 (mLI p.Weights) (gLI p.Weights)), some (.arr 1 p.Labels.length (fS p.Labels)), some (.oar [9203] 1 p.Weights.length (oLI 9203 p.Weights))] [Con Try.prog 37 [slFeat false s.Feats] true (slI true v_1) ∧ True] ⟨⟨hc1, trivial⟩, trivial⟩ ?_
    refine xe_then ?_
    refine x_seq ?_
    obtain ⟨v_2, hx2_0, hc2⟩ := scoresOf_ok p v_1 hp hinp
    have hsv := hx2_0
    have hsl : v_2.length = p.Weights.length := by rw [hsv, scR_len]
    rw [hiv] at hsv
    have hbi := bstI_in (l := v_2) (by omega)
    refine x_r [(4, .call [(false, slS false p.Labels), (true, .any)] true (I (fndL p.Labels s.Label))), (7, .call [(false, agPerceptron p), (false, slI false v_1)] true (slI true v_2)), (8, .call [(false, slI false v_2)] true (I (bstI v_2)))] [2, 5, 6, 7] [2, 9203, 9241, 9242] [.ref 2 0, slI true v_1, I (fndL p.Labels s.Label), I (bstI v_2)] [some (.box [.arr 9241, .arr 9242]), some (.fam p.Weights.length 1 (mLI p.Weights) (gLI p.Weights)), some (.arr 1 p.Labels.length (fS p.Labels)), some (.oar [9203] 1 p.Weights.length (oLI 9203 p.Weights))] [Con Try.prog 104 [slS false p.Labels, Sv s.Label] true (I (fndL p.Labels s.Label)) ∧ ((false = true → true = true) ∧ 1 = 1 ∧ p.Labels.length = p.Labels.length ∧ ∀ i_, i_ < p.Labels.length → (fS p.Labels) i_ = (fS p.Labels) i_ ∨ (AV.idsL ((fS p.Labels) i_) = [] ∧ leL (fun _ => none) false ((fS p.Labels) i_) ((fS p.Labels) i_))) ∧ True, Con Try.prog 36 [agPerceptron p, slI false v_1] true (slI true v_2) ∧ (((false = true → true = true) ∧ 1 = 1 ∧ p.Labels.length = p.Labels.length ∧ ∀ i_, i_ < p.Labels.length → (fS p.Labels) i_ = (fS p.Labels) i_ ∨ (AV.idsL ((fS p.Labels) i_) = [] ∧ leL (fun _ => none) false ((fS p.Labels) i_) ((fS p.Labels) i_))) ∧ ((false = true → true = true) ∧ 1 = 1 ∧ p.Weights.length = p.Weights.length ∧ ∀ i_, i_ < p.Weights.length → AV.idsL ((fLI false p.Weights) i_) = [] ∧ leL (lookO [(9203, .fam p.Weights.length 1 (mLI p.Weights) (gLI p.Weights))]) true ((oLI 9203 p.Weights) i_) ((fLI false p.Weights) i_)) ∧ ([] : List AV) = []) ∧ ((false = true → true = true) ∧ 1 = 1 ∧ v_1.length = v_1.length ∧ ∀ i_, i_ < v_1.length → (fI v_1) i_ = (fI v_1) i_ ∨ (AV.idsL ((fI v_1) i_) = [] ∧ leL (fun _ => none) false ((fI v_1) i_) ((fI v_1) i_))) ∧ True, Con Try.prog 42 [slI false v_2] true (I (bstI v_2)) ∧ ((false = true → true = true) ∧ 1 = 1 ∧ v_2.length = v_2.length ∧ ∀ i_, i_ < v_2.length → (fI v_2) i_ = (fI v_2) i_ ∨ (AV.idsL ((fI v_2) i_) = [] ∧ leL (fun _ => none) false ((fI v_2) i_) ((fI v_2) i_))) ∧ True] ⟨⟨(indexS_ok p.Labels s.Label), ⟨(fun h => by cases h), rfl, rfl, fun i _ => .inl rfl⟩, trivial⟩, ⟨hc2, ⟨⟨(fun h => by cases h), rfl, rfl, fun i _ => .inl rfl⟩, ⟨⟨(fun h => by cases h), rfl, rfl, oleLI _ _ rfl⟩, rfl⟩⟩, ⟨(fun h => by cases h), rfl, rfl, fun i _ => .inl rfl⟩, trivial⟩, ⟨(winner_ok v_2 (by omega)), ⟨(fun h => by cases h), rfl, rfl, fun i _ => .inl rfl⟩, trivial⟩, trivial⟩ ?_
    refine xe_then ?_
    refine x_seq ?_
    refine x_seq ?_
    by_cases h1 : (fndL p.Labels s.Label) = (bstI v_2)
    ·have heq : bstI (scR p.Weights (inpR s.Feats)) = fndL p.Labels s.Label := by rw [← hsv]; exact Eq.symm h1
     refine x_r [(2, .dec true)] [2, 5, 6, 7, 24] [2, 9203, 9241, 9242] [.ref 2 0, slI true v_1, I (fndL p.Labels s.Label), I (bstI v_2), Bv true] [some (.box [.arr 9241, .arr 9242]), some (.fam p.Weights.length 1 (mLI p.Weights) (gLI p.Weights)), some (.arr 1 p.Labels.length (fS p.Labels)), some (.oar [9203] 1 p.Weights.length (oLI 9203 p.Weights))] [(fndL p.Labels s.Label) = (bstI v_2)] ⟨h1, trivial⟩ ?_
     refine xe_then ?_
     refine x_true rfl ?_
     refine xR [] [4] [9203, 9241, 9242] [Bv false] [some (.fam p.Weights.length 1 (mLI p.Weights) (gLI p.Weights)), some (.arr 1 p.Labels.length (fS p.Labels)), some (.oar [9203] 1 p.Weights.length (oLI 9203 p.Weights))] [] trivial ?_
     refine x_ret ?_
     refine xe_ret_then ?_
     refine xe_end (false, p.Labels, p.Weights) (show (p.Labels = p.Labels) ∧ ((p.Weights, false) = trnR p s) ∧ (True) from ⟨(by first | rfl | exact (trn_a heq).symm | (rw [trn_b heq, hws])), (by first | rfl | exact (trn_a heq).symm | (rw [trn_b heq, hws])), trivial⟩) (⟨.inl rfl, .inl rfl, .inl rfl, trivial⟩) (Bv false) (by kernel_rfl) (.inl rfl) (fun _ => rfl) (fun _ => trivial)
    have heq : ¬ (bstI (scR p.Weights (inpR s.Feats)) = fndL p.Labels s.Label) := by rw [← hsv]; exact fun q => h1 q.symm
    have hne : (fndL p.Labels s.Label).toNat ≠ (bstI v_2).toNat := by omega
    refine x_r [(2, .dec false)] [2, 5, 6, 7, 24] [2, 9203, 9241, 9242] [.ref 2 0, slI true v_1, I (fndL p.Labels s.Label), I (bstI v_2), Bv false] [some (.box [.arr 9241, .arr 9242]), some (.fam p.Weights.length 1 (mLI p.Weights) (gLI p.Weights)), some (.arr 1 p.Labels.length (fS p.Labels)), some (.oar [9203] 1 p.Weights.length (oLI 9203 p.Weights))] [¬ ((fndL p.Labels s.Label) = (bstI v_2))] ⟨h1, trivial⟩ ?_
    refine xe_then ?_
    refine x_false rfl ?_
    refine x_skip ?_
    refine xe_then ?_
    refine x_seq ?_
    refine xR [] [2, 6, 7, 25, 26, 27] [2, 9203, 9241, 9242] [.ref 2 0, I (fndL p.Labels s.Label), I (bstI v_2), slI true v_1, I (v_1.length : Int), I 0] [some (.box [.arr 9241, .arr 9242]), some (.fam p.Weights.length 1 (mLI p.Weights) (gLI p.Weights)), some (.arr 1 p.Labels.length (fS p.Labels)), some (.oar [9203] 1 p.Weights.length (oLI 9203 p.Weights))] [] trivial ?_
    refine x_block ?_
    refine x_loop (X := Int × (List (List Int))) (fun x => mkS [(2, .ref 2 0), (6, I (fndL p.Labels s.Label)), (7, I (bstI v_2)), (25, slI true v_1), (26, I (v_1.length : Int)), (27, I x.1)] [(2, .box [.arr 9241, .arr 9242]), (9203, .fam x.2.length 1 (mLI x.2) (gLI x.2)), (9241, .arr 1 p.Labels.length (fS p.Labels)), (9242, .oar [9203] 1 x.2.length (oLI 9203 x.2))]) (fun x => (0 ≤ x.1 ∧ x.1 ≤ 25) ∧ (x.2 = updW p.Weights v_1 (fndL p.Labels s.Label).toNat (bstI v_2).toNat x.1.toNat) ∧ True) (fun x => ((25 : Int) - x.1).toNat) (0, p.Weights) rfl (show (0 ≤ (0 : Int) ∧ (0 : Int) ≤ 25) ∧ (p.Weights = updW p.Weights v_1 (fndL p.Labels s.Label).toNat (bstI v_2).toNat (0 : Int).toNat) ∧ True from ⟨(by omega), (by rfl), trivial⟩) (fun x hI => ?_)
    obtain ⟨t27, ws⟩ := x
    obtain ⟨hk0, hws, _⟩ : (0 ≤ t27 ∧ t27 ≤ 25) ∧ (ws = updW p.Weights v_1 (fndL p.Labels s.Label).toNat (bstI v_2).toNat t27.toNat) ∧ True := hI
    show XW _ _ _ _ (mkS [(2, .ref 2 0), (6, I (fndL p.Labels s.Label)), (7, I (bstI v_2)), (25, slI true v_1), (26, I (v_1.length : Int)), (27, I t27)] [(2, .box [.arr 9241, .arr 9242]), (9203, .fam ws.length 1 (mLI ws) (gLI ws)), (9241, .arr 1 p.Labels.length (fS p.Labels)), (9242, .oar [9203] 1 ws.length (oLI 9203 ws))]) _ _
    refine x_seq ?_
    by_cases h2 : t27 < (v_1.length : Int)
    ·have hk : t27.toNat < 25 := by omega
     have hwl : ws.length = p.Weights.length := by rw [hws, updW_len]
     have hrW : (at_ ws (fndL p.Labels s.Label).toNat).length = 25 := by rw [hws, updW_row]; exact (okRows_at hq.2.2 (by omega)).1
     have hrG : (at_ ws (bstI v_2).toNat).length = 25 := by rw [hws, updW_row]; exact (okRows_at hq.2.2 (by omega)).1
     have hbW : -1000512 ≤ at_ (at_ ws (fndL p.Labels s.Label).toNat) t27.toNat ∧ at_ (at_ ws (fndL p.Labels s.Label).toNat) t27.toNat ≤ 1000512 := by rw [hws]; exact upd_bd hp hinp.1 (by omega) (by omega) hne (by omega) (by omega) hk
     have hbG : -1000512 ≤ at_ (at_ ws (bstI v_2).toNat) t27.toNat ∧ at_ (at_ ws (bstI v_2).toNat) t27.toNat ≤ 1000512 := by rw [hws]; exact upd_bd hp hinp.1 (by omega) (by omega) hne (by omega) (by omega) hk
     have hxk := hinp.1 t27.toNat
     refine x_r [(0, .dec true)] [2, 6, 7, 25, 26, 27, 28] [2, 9203, 9241, 9242] [.ref 2 0, I (fndL p.Labels s.Label), I (bstI v_2), slI true v_1, I (v_1.length : Int), I t27, Bv true] [some (.box [.arr 9241, .arr 9242]), some (.fam ws.length 1 (mLI ws) (gLI ws)), some (.arr 1 p.Labels.length (fS p.Labels)), some (.oar [9203] 1 ws.length (oLI 9203 ws))] [t27 < (v_1.length : Int)] ⟨h2, trivial⟩ ?_
     refine xe_then ?_
     refine x_seq ?_
     refine x_true rfl ?_
     refine x_skip ?_
     refine xe_then ?_
     refine x_seq ?_
     refine x_block ?_
     refine xR [] [2, 6, 7, 8, 9, 25, 26, 27] [2, 9203, 9241, 9242] [.ref 2 0, I (fndL p.Labels s.Label), I (bstI v_2), I t27, I (at_ v_1 t27.toNat), slI true v_1, I (v_1.length : Int), I t27] [some (.box [.arr 9241, .arr 9242]), some (.fam ws.length 1 (mLI ws) (gLI ws)), some (.arr 1 p.Labels.length (fS p.Labels)), some (.oar [9203] 1 ws.length (oLI 9203 ws))] [(0 : Int) ≤ t27 ∧ t27 < (v_1.length : Int)] ⟨⟨(by omega), (by omega)⟩, trivial⟩ ?_
     refine xR [] [2, 6, 7, 8, 9, 25, 26, 27] [2, 9203, 9241, 9242] [.ref 2 0, I (fndL p.Labels s.Label), I (bstI v_2), I t27, I (at_ v_1 t27.toNat), slI true v_1, I (v_1.length : Int), I t27] [some (.box [.arr 9241, .arr 9242]), some (.fam ws.length 1 (mLI ws) (fun q => bif Nat.beq q ((fndL p.Labels s.Label).toNat) then (fun q => bif Nat.beq q t27.toNat then [I ((at_ (at_ ws ((fndL p.Labels s.Label).toNat)) t27.toNat) + (at_ v_1 t27.toNat))] else (gLI ws) ((fndL p.Labels s.Label).toNat) q) else (gLI ws) q)), some (.arr 1 p.Labels.length (fS p.Labels)), some (.oar [9203] 1 ws.length (oLI 9203 ws))] [(0 : Int) ≤ (fndL p.Labels s.Label) ∧ (fndL p.Labels s.Label) < (ws.length : Int), (fndL p.Labels s.Label).toNat < ws.length, ((fndL p.Labels s.Label).toNat) < ws.length ∧ (0 : Int) ≤ t27 ∧ t27 < (((at_ ws ((fndL p.Labels s.Label).toNat)).length) : Int), ((fndL p.Labels s.Label).toNat) < ws.length ∧ t27.toNat < (at_ ws ((fndL p.Labels s.Label).toNat)).length, inR .i64 ((at_ (at_ ws ((fndL p.Labels s.Label).toNat)) t27.toNat) + (at_ v_1 t27.toNat)), ((fndL p.Labels s.Label).toNat) < ws.length ∧ (0 : Int) ≤ t27 ∧ t27 < (((at_ ws ((fndL p.Labels s.Label).toNat)).length) : Int), ((fndL p.Labels s.Label).toNat) < ws.length ∧ t27.toNat < (at_ ws ((fndL p.Labels s.Label).toNat)).length] ⟨⟨(by omega), (by omega)⟩, (by omega), ⟨(by omega), (by omega), (by omega)⟩, ⟨(by omega), (by omega)⟩, (inR_i64 (by omega) (by omega)), ⟨(by omega), (by omega), (by omega)⟩, ⟨(by omega), (by omega)⟩, trivial⟩ ?_
     refine x_weak [] (T := [(2, .ref 2 0), (6, I (fndL p.Labels s.Label)), (7, I (bstI v_2)), (8, I t27), (9, I (at_ v_1 t27.toNat)), (25, slI true v_1), (26, I (v_1.length : Int)), (27, I t27)]) (O := [(2, .box [.arr 9241, .arr 9242]), (9203, .fam (ws.set ((fndL p.Labels s.Label).toNat) ((at_ ws ((fndL p.Labels s.Label).toNat)).set t27.toNat ((at_ (at_ ws ((fndL p.Labels s.Label).toNat)) t27.toNat) + (at_ v_1 t27.toNat)))).length 1 (mLI (ws.set ((fndL p.Labels s.Label).toNat) ((at_ ws ((fndL p.Labels s.Label).toNat)).set t27.toNat ((at_ (at_ ws ((fndL p.Labels s.Label).toNat)) t27.toNat) + (at_ v_1 t27.toNat))))) (gLI (ws.set ((fndL p.Labels s.Label).toNat) ((at_ ws ((fndL p.Labels s.Label).toNat)).set t27.toNat ((at_ (at_ ws ((fndL p.Labels s.Label).toNat)) t27.toNat) + (at_ v_1 t27.toNat)))))), (9241, .arr 1 p.Labels.length (fS p.Labels)), (9242, .oar [9203] 1 ((ws.set ((fndL p.Labels s.Label).toNat) ((at_ ws ((fndL p.Labels s.Label).toNat)).set t27.toNat ((at_ (at_ ws ((fndL p.Labels s.Label).toNat)) t27.toNat) + (at_ v_1 t27.toNat)))).length) (oLI 9203 (ws.set ((fndL p.Labels s.Label).toNat) ((at_ ws ((fndL p.Labels s.Label).toNat)).set t27.toNat ((at_ (at_ ws ((fndL p.Labels s.Label).toNat)) t27.toNat) + (at_ v_1 t27.toNat))))))]) rfl (⟨.inl rfl, .inl rfl, .inl rfl, .inl rfl, .inl rfl, .inl rfl, .inl rfl, .inl rfl, trivial⟩) (⟨.inl rfl, .inr (fsetLI (P := (fndL p.Labels s.Label).toNat) (k := t27.toNat) ((by omega)) ((by omega)) (by simp only [Nat.beq_refl, cond_true]; try rfl) (by intro i hi; simp only [Nat.beq_refl, cond_true, beq_ne hi, cond_false]; try rfl) (by intro p hp; simp only [beq_ne hp, cond_false])), .inl rfl, .inr ⟨rfl, rfl, (by first | rfl | (simp; done) | omega), fun i_ hi_ => .inl (osetLI 9203 ((fndL p.Labels s.Label).toNat) ws ((at_ ws ((fndL p.Labels s.Label).toNat)).set t27.toNat ((at_ (at_ ws ((fndL p.Labels s.Label).toNat)) t27.toNat) + (at_ v_1 t27.toNat))) i_)⟩, trivial⟩) ?_
     refine x_r [] [2, 6, 7, 25, 26, 27] [2, 9203, 9241, 9242] [.ref 2 0, I (fndL p.Labels s.Label), I (bstI v_2), slI true v_1, I (v_1.length : Int), I t27] [some (.box [.arr 9241, .arr 9242]), some (.fam (ws.set ((fndL p.Labels s.Label).toNat) ((at_ ws ((fndL p.Labels s.Label).toNat)).set t27.toNat ((at_ (at_ ws ((fndL p.Labels s.Label).toNat)) t27.toNat) + (at_ v_1 t27.toNat)))).length 1 (mLI (ws.set ((fndL p.Labels s.Label).toNat) ((at_ ws ((fndL p.Labels s.Label).toNat)).set t27.toNat ((at_ (at_ ws ((fndL p.Labels s.Label).toNat)) t27.toNat) + (at_ v_1 t27.toNat))))) (fun q => bif Nat.beq q ((bstI v_2).toNat) then (fun q => bif Nat.beq q t27.toNat then [I ((at_ (at_ (ws.set ((fndL p.Labels s.Label).toNat) ((at_ ws ((fndL p.Labels s.Label).toNat)).set t27.toNat ((at_ (at_ ws ((fndL p.Labels s.Label).toNat)) t27.toNat) + (at_ v_1 t27.toNat)))) ((bstI v_2).toNat)) t27.toNat) - (at_ v_1 t27.toNat))] else (gLI (ws.set ((fndL p.Labels s.Label).toNat) ((at_ ws ((fndL p.Labels s.Label).toNat)).set t27.toNat ((at_ (at_ ws ((fndL p.Labels s.Label).toNat)) t27.toNat) + (at_ v_1 t27.toNat))))) ((bstI v_2).toNat) q) else (gLI (ws.set ((fndL p.Labels s.Label).toNat) ((at_ ws ((fndL p.Labels s.Label).toNat)).set t27.toNat ((at_ (at_ ws ((fndL p.Labels s.Label).toNat)) t27.toNat) + (at_ v_1 t27.toNat))))) q)), some (.arr 1 p.Labels.length (fS p.Labels)), some (.oar [9203] 1 ((ws.set ((fndL p.Labels s.Label).toNat) ((at_ ws ((fndL p.Labels s.Label).toNat)).set t27.toNat ((at_ (at_ ws ((fndL p.Labels s.Label).toNat)) t27.toNat) + (at_ v_1 t27.toNat)))).length) (oLI 9203 (ws.set ((fndL p.Labels s.Label).toNat) ((at_ ws ((fndL p.Labels s.Label).toNat)).set t27.toNat ((at_ (at_ ws ((fndL p.Labels s.Label).toNat)) t27.toNat) + (at_ v_1 t27.toNat))))))] [(0 : Int) ≤ (bstI v_2) ∧ (bstI v_2) < (((ws.set ((fndL p.Labels s.Label).toNat) ((at_ ws ((fndL p.Labels s.Label).toNat)).set t27.toNat ((at_ (at_ ws ((fndL p.Labels s.Label).toNat)) t27.toNat) + (at_ v_1 t27.toNat)))).length : Nat) : Int), (bstI v_2).toNat < (ws.set ((fndL p.Labels s.Label).toNat) ((at_ ws ((fndL p.Labels s.Label).toNat)).set t27.toNat ((at_ (at_ ws ((fndL p.Labels s.Label).toNat)) t27.toNat) + (at_ v_1 t27.toNat)))).length, ((bstI v_2).toNat) < (ws.set ((fndL p.Labels s.Label).toNat) ((at_ ws ((fndL p.Labels s.Label).toNat)).set t27.toNat ((at_ (at_ ws ((fndL p.Labels s.Label).toNat)) t27.toNat) + (at_ v_1 t27.toNat)))).length ∧ (0 : Int) ≤ t27 ∧ t27 < (((at_ (ws.set ((fndL p.Labels s.Label).toNat) ((at_ ws ((fndL p.Labels s.Label).toNat)).set t27.toNat ((at_ (at_ ws ((fndL p.Labels s.Label).toNat)) t27.toNat) + (at_ v_1 t27.toNat)))) ((bstI v_2).toNat)).length) : Int), ((bstI v_2).toNat) < (ws.set ((fndL p.Labels s.Label).toNat) ((at_ ws ((fndL p.Labels s.Label).toNat)).set t27.toNat ((at_ (at_ ws ((fndL p.Labels s.Label).toNat)) t27.toNat) + (at_ v_1 t27.toNat)))).length ∧ t27.toNat < (at_ (ws.set ((fndL p.Labels s.Label).toNat) ((at_ ws ((fndL p.Labels s.Label).toNat)).set t27.toNat ((at_ (at_ ws ((fndL p.Labels s.Label).toNat)) t27.toNat) + (at_ v_1 t27.toNat)))) ((bstI v_2).toNat)).length, inR .i64 ((at_ (at_ (ws.set ((fndL p.Labels s.Label).toNat) ((at_ ws ((fndL p.Labels s.Label).toNat)).set t27.toNat ((at_ (at_ ws ((fndL p.Labels s.Label).toNat)) t27.toNat) + (at_ v_1 t27.toNat)))) ((bstI v_2).toNat)) t27.toNat) - (at_ v_1 t27.toNat)), ((bstI v_2).toNat) < (ws.set ((fndL p.Labels s.Label).toNat) ((at_ ws ((fndL p.Labels s.Label).toNat)).set t27.toNat ((at_ (at_ ws ((fndL p.Labels s.Label).toNat)) t27.toNat) + (at_ v_1 t27.toNat)))).length ∧ (0 : Int) ≤ t27 ∧ t27 < (((at_ (ws.set ((fndL p.Labels s.Label).toNat) ((at_ ws ((fndL p.Labels s.Label).toNat)).set t27.toNat ((at_ (at_ ws ((fndL p.Labels s.Label).toNat)) t27.toNat) + (at_ v_1 t27.toNat)))) ((bstI v_2).toNat)).length) : Int), ((bstI v_2).toNat) < (ws.set ((fndL p.Labels s.Label).toNat) ((at_ ws ((fndL p.Labels s.Label).toNat)).set t27.toNat ((at_ (at_ ws ((fndL p.Labels s.Label).toNat)) t27.toNat) + (at_ v_1 t27.toNat)))).length ∧ t27.toNat < (at_ (ws.set ((fndL p.Labels s.Label).toNat) ((at_ ws ((fndL p.Labels s.Label).toNat)).set t27.toNat ((at_ (at_ ws ((fndL p.Labels s.Label).toNat)) t27.toNat) + (at_ v_1 t27.toNat)))) ((bstI v_2).toNat)).length] ⟨⟨(by first | omega | (rw [set_row_len (by rw [List.length_set])]; omega) | (simp only [List.length_set]; omega) | ((try simp only [List.length_set]); rw [set_row_len (by rw [List.length_set])]; omega)), (by first | omega | (rw [set_row_len (by rw [List.length_set])]; omega) | (simp only [List.length_set]; omega) | ((try simp only [List.length_set]); rw [set_row_len (by rw [List.length_set])]; omega))⟩, (by first | omega | (rw [set_row_len (by rw [List.length_set])]; omega) | (simp only [List.length_set]; omega) | ((try simp only [List.length_set]); rw [set_row_len (by rw [List.length_set])]; omega)), ⟨(by first | omega | (rw [set_row_len (by rw [List.length_set])]; omega) | (simp only [List.length_set]; omega) | ((try simp only [List.length_set]); rw [set_row_len (by rw [List.length_set])]; omega)), (by omega), (by first | omega | (rw [set_row_len (by rw [List.length_set])]; omega) | (simp only [List.length_set]; omega) | ((try simp only [List.length_set]); rw [set_row_len (by rw [List.length_set])]; omega))⟩, ⟨(by first | omega | (rw [set_row_len (by rw [List.length_set])]; omega) | (simp only [List.length_set]; omega) | ((try simp only [List.length_set]); rw [set_row_len (by rw [List.length_set])]; omega)), (by first | omega | (rw [set_row_len (by rw [List.length_set])]; omega) | (simp only [List.length_set]; omega) | ((try simp only [List.length_set]); rw [set_row_len (by rw [List.length_set])]; omega))⟩, (by simp only [at_set]; (repeat split) <;> exact inR_i64 (by omega) (by omega)), ⟨(by first | omega | (rw [set_row_len (by rw [List.length_set])]; omega) | (simp only [List.length_set]; omega) | ((try simp only [List.length_set]); rw [set_row_len (by rw [List.length_set])]; omega)), (by omega), (by first | omega | (rw [set_row_len (by rw [List.length_set])]; omega) | (simp only [List.length_set]; omega) | ((try simp only [List.length_set]); rw [set_row_len (by rw [List.length_set])]; omega))⟩, ⟨(by first | omega | (rw [set_row_len (by rw [List.length_set])]; omega) | (simp only [List.length_set]; omega) | ((try simp only [List.length_set]); rw [set_row_len (by rw [List.length_set])]; omega)), (by first | omega | (rw [set_row_len (by rw [List.length_set])]; omega) | (simp only [List.length_set]; omega) | ((try simp only [List.length_set]); rw [set_row_len (by rw [List.length_set])]; omega))⟩, trivial⟩ ?_
     refine xe_block 1 ?_
     refine xe_then ?_
     refine x_weak [] (T := [(2, .ref 2 0), (6, I (fndL p.Labels s.Label)), (7, I (bstI v_2)), (25, slI true v_1), (26, I (v_1.length : Int)), (27, I t27)]) (O := [(2, .box [.arr 9241, .arr 9242]), (9203, .fam ((ws.set ((fndL p.Labels s.Label).toNat) ((at_ ws ((fndL p.Labels s.Label).toNat)).set t27.toNat ((at_ (at_ ws ((fndL p.Labels s.Label).toNat)) t27.toNat) + (at_ v_1 t27.toNat)))).set ((bstI v_2).toNat) ((at_ (ws.set ((fndL p.Labels s.Label).toNat) ((at_ ws ((fndL p.Labels s.Label).toNat)).set t27.toNat ((at_ (at_ ws ((fndL p.Labels s.Label).toNat)) t27.toNat) + (at_ v_1 t27.toNat)))) ((bstI v_2).toNat)).set t27.toNat ((at_ (at_ (ws.set ((fndL p.Labels s.Label).toNat) ((at_ ws ((fndL p.Labels s.Label).toNat)).set t27.toNat ((at_ (at_ ws ((fndL p.Labels s.Label).toNat)) t27.toNat) + (at_ v_1 t27.toNat)))) ((bstI v_2).toNat)) t27.toNat) - (at_ v_1 t27.toNat)))).length 1 (mLI ((ws.set ((fndL p.Labels s.Label).toNat) ((at_ ws ((fndL p.Labels s.Label).toNat)).set t27.toNat ((at_ (at_ ws ((fndL p.Labels s.Label).toNat)) t27.toNat) + (at_ v_1 t27.toNat)))).set ((bstI v_2).toNat) ((at_ (ws.set ((fndL p.Labels s.Label).toNat) ((at_ ws ((fndL p.Labels s.Label).toNat)).set t27.toNat ((at_ (at_ ws ((fndL p.Labels s.Label).toNat)) t27.toNat) + (at_ v_1 t27.toNat)))) ((bstI v_2).toNat)).set t27.toNat ((at_ (at_ (ws.set ((fndL p.Labels s.Label).toNat) ((at_ ws ((fndL p.Labels s.Label).toNat)).set t27.toNat ((at_ (at_ ws ((fndL p.Labels s.Label).toNat)) t27.toNat) + (at_ v_1 t27.toNat)))) ((bstI v_2).toNat)) t27.toNat) - (at_ v_1 t27.toNat))))) (gLI ((ws.set ((fndL p.Labels s.Label).toNat) ((at_ ws ((fndL p.Labels s.Label).toNat)).set t27.toNat ((at_ (at_ ws ((fndL p.Labels s.Label).toNat)) t27.toNat) + (at_ v_1 t27.toNat)))).set ((bstI v_2).toNat) ((at_ (ws.set ((fndL p.Labels s.Label).toNat) ((at_ ws ((fndL p.Labels s.Label).toNat)).set t27.toNat ((at_ (at_ ws ((fndL p.Labels s.Label).toNat)) t27.toNat) + (at_ v_1 t27.toNat)))) ((bstI v_2).toNat)).set t27.toNat ((at_ (at_ (ws.set ((fndL p.Labels s.Label).toNat) ((at_ ws ((fndL p.Labels s.Label).toNat)).set t27.toNat ((at_ (at_ ws ((fndL p.Labels s.Label).toNat)) t27.toNat) + (at_ v_1 t27.toNat)))) ((bstI v_2).toNat)) t27.toNat) - (at_ v_1 t27.toNat)))))), (9241, .arr 1 p.Labels.length (fS p.Labels)), (9242, .oar [9203] 1 (((ws.set ((fndL p.Labels s.Label).toNat) ((at_ ws ((fndL p.Labels s.Label).toNat)).set t27.toNat ((at_ (at_ ws ((fndL p.Labels s.Label).toNat)) t27.toNat) + (at_ v_1 t27.toNat)))).set ((bstI v_2).toNat) ((at_ (ws.set ((fndL p.Labels s.Label).toNat) ((at_ ws ((fndL p.Labels s.Label).toNat)).set t27.toNat ((at_ (at_ ws ((fndL p.Labels s.Label).toNat)) t27.toNat) + (at_ v_1 t27.toNat)))) ((bstI v_2).toNat)).set t27.toNat ((at_ (at_ (ws.set ((fndL p.Labels s.Label).toNat) ((at_ ws ((fndL p.Labels s.Label).toNat)).set t27.toNat ((at_ (at_ ws ((fndL p.Labels s.Label).toNat)) t27.toNat) + (at_ v_1 t27.toNat)))) ((bstI v_2).toNat)) t27.toNat) - (at_ v_1 t27.toNat)))).length) (oLI 9203 ((ws.set ((fndL p.Labels s.Label).toNat) ((at_ ws ((fndL p.Labels s.Label).toNat)).set t27.toNat ((at_ (at_ ws ((fndL p.Labels s.Label).toNat)) t27.toNat) + (at_ v_1 t27.toNat)))).set ((bstI v_2).toNat) ((at_ (ws.set ((fndL p.Labels s.Label).toNat) ((at_ ws ((fndL p.Labels s.Label).toNat)).set t27.toNat ((at_ (at_ ws ((fndL p.Labels s.Label).toNat)) t27.toNat) + (at_ v_1 t27.toNat)))) ((bstI v_2).toNat)).set t27.toNat ((at_ (at_ (ws.set ((fndL p.Labels s.Label).toNat) ((at_ ws ((fndL p.Labels s.Label).toNat)).set t27.toNat ((at_ (at_ ws ((fndL p.Labels s.Label).toNat)) t27.toNat) + (at_ v_1 t27.toNat)))) ((bstI v_2).toNat)) t27.toNat) - (at_ v_1 t27.toNat))))))]) rfl (⟨.inl rfl, .inl rfl, .inl rfl, .inl rfl, .inl rfl, .inl rfl, trivial⟩) (⟨.inl rfl, .inr (fsetLI (P := (bstI v_2).toNat) (k := t27.toNat) ((by first | omega | (rw [set_row_len (by rw [List.length_set])]; omega) | (simp only [List.length_set]; omega) | ((try simp only [List.length_set]); rw [set_row_len (by rw [List.length_set])]; omega))) ((by first | omega | (rw [set_row_len (by rw [List.length_set])]; omega) | (simp only [List.length_set]; omega) | ((try simp only [List.length_set]); rw [set_row_len (by rw [List.length_set])]; omega))) (by simp only [Nat.beq_refl, cond_true]; try rfl) (by intro i hi; simp only [Nat.beq_refl, cond_true, beq_ne hi, cond_false]; try rfl) (by intro p hp; simp only [beq_ne hp, cond_false])), .inl rfl, .inr ⟨rfl, rfl, (by first | rfl | (simp; done) | omega), fun i_ hi_ => .inl (osetLI 9203 ((bstI v_2).toNat) (ws.set ((fndL p.Labels s.Label).toNat) ((at_ ws ((fndL p.Labels s.Label).toNat)).set t27.toNat ((at_ (at_ ws ((fndL p.Labels s.Label).toNat)) t27.toNat) + (at_ v_1 t27.toNat)))) ((at_ (ws.set ((fndL p.Labels s.Label).toNat) ((at_ ws ((fndL p.Labels s.Label).toNat)).set t27.toNat ((at_ (at_ ws ((fndL p.Labels s.Label).toNat)) t27.toNat) + (at_ v_1 t27.toNat)))) ((bstI v_2).toNat)).set t27.toNat ((at_ (at_ (ws.set ((fndL p.Labels s.Label).toNat) ((at_ ws ((fndL p.Labels s.Label).toNat)).set t27.toNat ((at_ (at_ ws ((fndL p.Labels s.Label).toNat)) t27.toNat) + (at_ v_1 t27.toNat)))) ((bstI v_2).toNat)) t27.toNat) - (at_ v_1 t27.toNat))) i_)⟩, trivial⟩) ?_
     refine x_r [] [2, 6, 7, 25, 26, 27] [2, 9203, 9241, 9242] [.ref 2 0, I (fndL p.Labels s.Label), I (bstI v_2), slI true v_1, I (v_1.length : Int), I (t27 + 1)] [some (.box [.arr 9241, .arr 9242]), some (.fam ((ws.set ((fndL p.Labels s.Label).toNat) ((at_ ws ((fndL p.Labels s.Label).toNat)).set t27.toNat ((at_ (at_ ws ((fndL p.Labels s.Label).toNat)) t27.toNat) + (at_ v_1 t27.toNat)))).set ((bstI v_2).toNat) ((at_ (ws.set ((fndL p.Labels s.Label).toNat) ((at_ ws ((fndL p.Labels s.Label).toNat)).set t27.toNat ((at_ (at_ ws ((fndL p.Labels s.Label).toNat)) t27.toNat) + (at_ v_1 t27.toNat)))) ((bstI v_2).toNat)).set t27.toNat ((at_ (at_ (ws.set ((fndL p.Labels s.Label).toNat) ((at_ ws ((fndL p.Labels s.Label).toNat)).set t27.toNat ((at_ (at_ ws ((fndL p.Labels s.Label).toNat)) t27.toNat) + (at_ v_1 t27.toNat)))) ((bstI v_2).toNat)) t27.toNat) - (at_ v_1 t27.toNat)))).length 1 (mLI ((ws.set ((fndL p.Labels s.Label).toNat) ((at_ ws ((fndL p.Labels s.Label).toNat)).set t27.toNat ((at_ (at_ ws ((fndL p.Labels s.Label).toNat)) t27.toNat) + (at_ v_1 t27.toNat)))).set ((bstI v_2).toNat) ((at_ (ws.set ((fndL p.Labels s.Label).toNat) ((at_ ws ((fndL p.Labels s.Label).toNat)).set t27.toNat ((at_ (at_ ws ((fndL p.Labels s.Label).toNat)) t27.toNat) + (at_ v_1 t27.toNat)))) ((bstI v_2).toNat)).set t27.toNat ((at_ (at_ (ws.set ((fndL p.Labels s.Label).toNat) ((at_ ws ((fndL p.Labels s.Label).toNat)).set t27.toNat ((at_ (at_ ws ((fndL p.Labels s.Label).toNat)) t27.toNat) + (at_ v_1 t27.toNat)))) ((bstI v_2).toNat)) t27.toNat) - (at_ v_1 t27.toNat))))) (gLI ((ws.set ((fndL p.Labels s.Label).toNat) ((at_ ws ((fndL p.Labels s.Label).toNat)).set t27.toNat ((at_ (at_ ws ((fndL p.Labels s.Label).toNat)) t27.toNat) + (at_ v_1 t27.toNat)))).set ((bstI v_2).toNat) ((at_ (ws.set ((fndL p.Labels s.Label).toNat) ((at_ ws ((fndL p.Labels s.Label).toNat)).set t27.toNat ((at_ (at_ ws ((fndL p.Labels s.Label).toNat)) t27.toNat) + (at_ v_1 t27.toNat)))) ((bstI v_2).toNat)).set t27.toNat ((at_ (at_ (ws.set ((fndL p.Labels s.Label).toNat) ((at_ ws ((fndL p.Labels s.Label).toNat)).set t27.toNat ((at_ (at_ ws ((fndL p.Labels s.Label).toNat)) t27.toNat) + (at_ v_1 t27.toNat)))) ((bstI v_2).toNat)) t27.toNat) - (at_ v_1 t27.toNat)))))), some (.arr 1 p.Labels.length (fS p.Labels)), some (.oar [9203] 1 (((ws.set ((fndL p.Labels s.Label).toNat) ((at_ ws ((fndL p.Labels s.Label).toNat)).set t27.toNat ((at_ (at_ ws ((fndL p.Labels s.Label).toNat)) t27.toNat) + (at_ v_1 t27.toNat)))).set ((bstI v_2).toNat) ((at_ (ws.set ((fndL p.Labels s.Label).toNat) ((at_ ws ((fndL p.Labels s.Label).toNat)).set t27.toNat ((at_ (at_ ws ((fndL p.Labels s.Label).toNat)) t27.toNat) + (at_ v_1 t27.toNat)))) ((bstI v_2).toNat)).set t27.toNat ((at_ (at_ (ws.set ((fndL p.Labels s.Label).toNat) ((at_ ws ((fndL p.Labels s.Label).toNat)).set t27.toNat ((at_ (at_ ws ((fndL p.Labels s.Label).toNat)) t27.toNat) + (at_ v_1 t27.toNat)))) ((bstI v_2).toNat)) t27.toNat) - (at_ v_1 t27.toNat)))).length) (oLI 9203 ((ws.set ((fndL p.Labels s.Label).toNat) ((at_ ws ((fndL p.Labels s.Label).toNat)).set t27.toNat ((at_ (at_ ws ((fndL p.Labels s.Label).toNat)) t27.toNat) + (at_ v_1 t27.toNat)))).set ((bstI v_2).toNat) ((at_ (ws.set ((fndL p.Labels s.Label).toNat) ((at_ ws ((fndL p.Labels s.Label).toNat)).set t27.toNat ((at_ (at_ ws ((fndL p.Labels s.Label).toNat)) t27.toNat) + (at_ v_1 t27.toNat)))) ((bstI v_2).toNat)).set t27.toNat ((at_ (at_ (ws.set ((fndL p.Labels s.Label).toNat) ((at_ ws ((fndL p.Labels s.Label).toNat)).set t27.toNat ((at_ (at_ ws ((fndL p.Labels s.Label).toNat)) t27.toNat) + (at_ v_1 t27.toNat)))) ((bstI v_2).toNat)) t27.toNat) - (at_ v_1 t27.toNat))))))] [inR .i64 (t27 + 1)] ⟨(inR_i64 (by omega) (by omega)), trivial⟩ ?_
     exact xe_again ((t27 + 1), ((ws.set ((fndL p.Labels s.Label).toNat) ((at_ ws ((fndL p.Labels s.Label).toNat)).set t27.toNat ((at_ (at_ ws ((fndL p.Labels s.Label).toNat)) t27.toNat) + (at_ v_1 t27.toNat)))).set ((bstI v_2).toNat) ((at_ (ws.set ((fndL p.Labels s.Label).toNat) ((at_ ws ((fndL p.Labels s.Label).toNat)).set t27.toNat ((at_ (at_ ws ((fndL p.Labels s.Label).toNat)) t27.toNat) + (at_ v_1 t27.toNat)))) ((bstI v_2).toNat)).set t27.toNat ((at_ (at_ (ws.set ((fndL p.Labels s.Label).toNat) ((at_ ws ((fndL p.Labels s.Label).toNat)).set t27.toNat ((at_ (at_ ws ((fndL p.Labels s.Label).toNat)) t27.toNat) + (at_ v_1 t27.toNat)))) ((bstI v_2).toNat)) t27.toNat) - (at_ v_1 t27.toNat))))) rfl (show (0 ≤ (t27 + 1) ∧ (t27 + 1) ≤ 25) ∧ (((ws.set ((fndL p.Labels s.Label).toNat) ((at_ ws ((fndL p.Labels s.Label).toNat)).set t27.toNat ((at_ (at_ ws ((fndL p.Labels s.Label).toNat)) t27.toNat) + (at_ v_1 t27.toNat)))).set ((bstI v_2).toNat) ((at_ (ws.set ((fndL p.Labels s.Label).toNat) ((at_ ws ((fndL p.Labels s.Label).toNat)).set t27.toNat ((at_ (at_ ws ((fndL p.Labels s.Label).toNat)) t27.toNat) + (at_ v_1 t27.toNat)))) ((bstI v_2).toNat)).set t27.toNat ((at_ (at_ (ws.set ((fndL p.Labels s.Label).toNat) ((at_ ws ((fndL p.Labels s.Label).toNat)).set t27.toNat ((at_ (at_ ws ((fndL p.Labels s.Label).toNat)) t27.toNat) + (at_ v_1 t27.toNat)))) ((bstI v_2).toNat)) t27.toNat) - (at_ v_1 t27.toNat)))) = updW p.Weights v_1 (fndL p.Labels s.Label).toNat (bstI v_2).toNat (t27 + 1).toNat) ∧ True from ⟨(by omega), (by rw [updW_1 hk0.1, ← hws]), trivial⟩) (by first | (show (((25 : Int) - (t27 + 1)).toNat : Nat) < ((25 : Int) - t27).toNat; omega) | (dsimp only; omega))
    have hie : t27.toNat = 25 := by omega
    rw [hie] at hws
    rw [hiv, hsv] at hws
    refine x_r [(0, .dec false)] [2, 6, 7, 25, 26, 27, 28] [2, 9203, 9241, 9242] [.ref 2 0, I (fndL p.Labels s.Label), I (bstI v_2), slI true v_1, I (v_1.length : Int), I t27, Bv false] [some (.box [.arr 9241, .arr 9242]), some (.fam ws.length 1 (mLI ws) (gLI ws)), some (.arr 1 p.Labels.length (fS p.Labels)), some (.oar [9203] 1 ws.length (oLI 9203 ws))] [¬ (t27 < (v_1.length : Int))] ⟨h2, trivial⟩ ?_
    refine xe_then ?_
    refine x_seq ?_
    refine x_false rfl ?_
    refine x_exit ?_
    refine xe_exit_then ?_
    refine xe_loop_exit ?_
    refine xe_exit_same ?_
    refine xe_then ?_
    refine xR [] [4] [9203, 9241, 9242] [Bv true] [some (.fam ws.length 1 (mLI ws) (gLI ws)), some (.arr 1 p.Labels.length (fS p.Labels)), some (.oar [9203] 1 ws.length (oLI 9203 ws))] [] trivial ?_
    refine x_ret ?_
    refine xe_end (true, p.Labels, ws) (show (p.Labels = p.Labels) ∧ ((ws, true) = trnR p s) ∧ (True) from ⟨(by first | rfl | exact (trn_a heq).symm | (rw [trn_b heq, hws])), (by first | rfl | exact (trn_a heq).symm | (rw [trn_b heq, hws])), trivial⟩) (⟨.inl rfl, .inl rfl, .inl rfl, trivial⟩) (Bv true) (by kernel_rfl) (.inl rfl) (fun _ => rfl) (fun _ => trivial)
  obtain ⟨⟨ch, p_Labels, p_Weights⟩, ⟨hh0, hh1, _⟩, hc⟩ := hh
  exact ⟨ch, p_Labels, p_Weights, hh0, hh1, hc⟩


-- impl.trainAll
theorem trainAll_ok (p : Perceptron) (list : List Sample) (hp : okPerc p = true) (hl : ∀ j, j < list.length → (at_ list j).Label ∈ p.Labels ∧ okFeats (at_ list j).Feats 384 = true) (hll : list.length ≤ 1000) : ∃ (n : Int) (c : Int) (p_Labels : List ByteArray) (p_Weights : List (List Int)), (p_Labels = p.Labels) ∧ ((epR p list list.length).2 = (n, c)) ∧ (c = 0 → p_Weights = (epR p list list.length).1.Weights) ∧ CallOK Try.prog 62 [.agg [.arr 9241, .arr 9242], slSample false list] (lookO [(9241, .arr 1 p.Labels.length (fS p.Labels)), (9203, .fam p.Weights.length 1 (mLI p.Weights) (gLI p.Weights)), (9242, .oar [9203] 1 p.Weights.length (oLI 9203 p.Weights))]) true (.tup [I n, I c]) (lookO [(9241, .arr 1 p_Labels.length (fS p_Labels)), (9203, .fam p_Weights.length 1 (mLI p_Weights) (gLI p_Weights)), (9242, .oar [9203] 1 p_Weights.length (oLI 9203 p_Weights))]) := by
  have hh : ∃ r : Int × Int × (List ByteArray) × (List (List Int)), ((r.2.2.1 = p.Labels) ∧ ((epR p list list.length).2 = (r.1, r.2.1)) ∧ (r.2.1 = 0 → r.2.2.2 = (epR p list list.length).1.Weights) ∧ (True)) ∧ CallOK Try.prog 62 [.agg [.arr 9241, .arr 9242], slSample false list] (lookO [(9241, .arr 1 p.Labels.length (fS p.Labels)), (9203, .fam p.Weights.length 1 (mLI p.Weights) (gLI p.Weights)), (9242, .oar [9203] 1 p.Weights.length (oLI 9203 p.Weights))]) true (.tup [I r.1, I r.2.1]) (lookO [(9241, .arr 1 r.2.2.1.length (fS r.2.2.1)), (9203, .fam r.2.2.2.length 1 (mLI r.2.2.2) (gLI r.2.2.2)), (9242, .oar [9203] 1 r.2.2.2.length (oLI 9203 r.2.2.2))]) := by
    refine fn_okX (Φ := fun r : Int × Int × (List ByteArray) × (List (List Int)) => (r.2.2.1 = p.Labels) ∧ ((epR p list list.length).2 = (r.1, r.2.1)) ∧ (r.2.1 = 0 → r.2.2.2 = (epR p list list.length).1.Weights) ∧ (True)) [(9241, .arr 1 p.Labels.length (fS p.Labels)), (9203, .fam p.Weights.length 1 (mLI p.Weights) (gLI p.Weights)), (9242, .oar [9203] 1 p.Weights.length (oLI 9203 p.Weights))] (fun r => [(9241, .arr 1 r.2.2.1.length (fS r.2.2.1)), (9203, .fam r.2.2.2.length 1 (mLI r.2.2.2) (gLI r.2.2.2)), (9242, .oar [9203] 1 r.2.2.2.length (oLI 9203 r.2.2.2))]) (fn := Try.f62) (nt := 25) Try.func62 rfl rfl (args := [.agg [.arr 9241, .arr 9242], slSample false list]) rfl (allcons (.inr (by simp [tagged, taggedL])) (allcons (.inl ⟨rfl, tagSample false _⟩) allnil)) (res := fun r => .tup [I r.1, I r.2.1]) ?_
    refine xR [(0, .new 2)] [1, 2] [2, 9203, 9241, 9242] [slSample false list, .ref 2 0] [some (.box [.arr 9241, .arr 9242]), some (.fam p.Weights.length 1 (mLI p.Weights) (gLI p.Weights)), some (.arr 1 p.Labels.length (fS p.Labels)), some (.oar [9203] 1 p.Weights.length (oLI 9203 p.Weights))] [] trivial ?_
    refine xR [] [1, 2, 6] [2, 9203, 9241, 9242] [slSample false list, .ref 2 0, I 0] [some (.box [.arr 9241, .arr 9242]), some (.fam p.Weights.length 1 (mLI p.Weights) (gLI p.Weights)), some (.arr 1 p.Labels.length (fS p.Labels)), some (.oar [9203] 1 p.Weights.length (oLI 9203 p.Weights))] [] trivial ?_
    refine x_seq ?_
    refine xR [] [2, 6, 9, 10, 11] [2, 9203, 9241, 9242] [.ref 2 0, I 0, slSample false list, I (list.length : Int), I 0] [some (.box [.arr 9241, .arr 9242]), some (.fam p.Weights.length 1 (mLI p.Weights) (gLI p.Weights)), some (.arr 1 p.Labels.length (fS p.Labels)), some (.oar [9203] 1 p.Weights.length (oLI 9203 p.Weights))] [] trivial ?_
    refine x_block ?_
    refine x_loop (X := Int × Int × (List (List Int)) × (List ByteArray)) (fun x => mkS [(2, .ref 2 0), (6, I x.1), (9, slSample false list), (10, I (list.length : Int)), (11, I x.2.1)] [(2, .box [.arr 9241, .arr 9242]), (9203, .fam x.2.2.1.length 1 (mLI x.2.2.1) (gLI x.2.2.1)), (9241, .arr 1 x.2.2.2.length (fS x.2.2.2)), (9242, .oar [9203] 1 x.2.2.1.length (oLI 9203 x.2.2.1))]) (fun x => (0 ≤ x.2.1 ∧ x.2.1 ≤ (list.length : Int)) ∧ (epR p list x.2.1.toNat = (Perceptron.mk x.2.2.2 x.2.2.1, x.1, 0)) ∧ (okPerc (Perceptron.mk x.2.2.2 x.2.2.1) = true) ∧ (x.2.2.2 = p.Labels) ∧ (0 ≤ x.1 ∧ x.1 ≤ x.2.1) ∧ True) (fun x => ((list.length : Int) - x.2.1).toNat) (0, 0, p.Weights, p.Labels) rfl (show (0 ≤ (0 : Int) ∧ (0 : Int) ≤ (list.length : Int)) ∧ (epR p list (0 : Int).toNat = (Perceptron.mk p.Labels p.Weights, (0 : Int), 0)) ∧ (okPerc (Perceptron.mk p.Labels p.Weights) = true) ∧ (p.Labels = p.Labels) ∧ (0 ≤ (0 : Int) ∧ (0 : Int) ≤ (0 : Int)) ∧ True from ⟨(by omega), (by rfl), (by exact hp), (by rfl), (by omega), trivial⟩) (fun x hI => ?_)
    obtain ⟨changes, t11, ws, ls⟩ := x
    obtain ⟨hi0, hep, hok, hlb, hnb, _⟩ : (0 ≤ t11 ∧ t11 ≤ (list.length : Int)) ∧ (epR p list t11.toNat = (Perceptron.mk ls ws, changes, 0)) ∧ (okPerc (Perceptron.mk ls ws) = true) ∧ (ls = p.Labels) ∧ (0 ≤ changes ∧ changes ≤ t11) ∧ True := hI
    show XW _ _ _ _ (mkS [(2, .ref 2 0), (6, I changes), (9, slSample false list), (10, I (list.length : Int)), (11, I t11)] [(2, .box [.arr 9241, .arr 9242]), (9203, .fam ws.length 1 (mLI ws) (gLI ws)), (9241, .arr 1 ls.length (fS ls)), (9242, .oar [9203] 1 ws.length (oLI 9203 ws))]) _ _
    refine x_seq ?_
    by_cases h1 : t11 < (list.length : Int)
    ·have hi : t11.toNat < list.length := by omega
     have hsm := hl t11.toNat hi
     refine x_r [(0, .dec true)] [2, 6, 9, 10, 11, 12] [2, 9203, 9241, 9242] [.ref 2 0, I changes, slSample false list, I (list.length : Int), I t11, Bv true] [some (.box [.arr 9241, .arr 9242]), some (.fam ws.length 1 (mLI ws) (gLI ws)), some (.arr 1 ls.length (fS ls)), some (.oar [9203] 1 ws.length (oLI 9203 ws))] [t11 < (list.length : Int)] ⟨h1, trivial⟩ ?_
     refine xe_then ?_
     refine x_seq ?_
     refine x_true rfl ?_
     refine x_skip ?_
     refine xe_then ?_
     refine x_seq ?_
     refine x_block ?_
     refine xR [(2, .new 8)] [2, 6, 8, 9, 10, 11] [2, 8, 9203, 9241, 9242] [.ref 2 0, I changes, .ref 8 0, slSample false list, I (list.length : Int), I t11] [some (.box [.arr 9241, .arr 9242]), some (bxSample (at_ list t11.toNat)), some (.fam ws.length 1 (mLI ws) (gLI ws)), some (.arr 1 ls.length (fS ls)), some (.oar [9203] 1 ws.length (oLI 9203 ws))] [(0 : Int) ≤ t11 ∧ t11 < (list.length : Int)] ⟨⟨(by omega), (by omega)⟩, trivial⟩ ?_
     refine x_seq ?_
     refine x_seq ?_
     obtain ⟨ch_1, pLabels_1, pWeights_1, hx1_0, hx1_1, hc1⟩ := train_ok (Perceptron.mk ls ws) (at_ list t11.toNat) hok (by show _ ∈ ls; rw [hlb]; exact hsm.1) hsm.2
     have htl : pLabels_1 = ls := hx1_0
     have htn := trn_step hok hx1_1
     simp only at htn
     rcases Bool.eq_false_or_eq_true ch_1 with h2 | h2
     ·subst h2
      refine x_r [(2, .lend [(9241, .arr 1 ls.length (fS ls), .arr 1 pLabels_1.length (fS pLabels_1)), (9203, .fam ws.length 1 (mLI ws) (gLI ws), .fam pWeights_1.length 1 (mLI pWeights_1) (gLI pWeights_1)), (9242, .oar [9203] 1 ws.length (oLI 9203 ws), .oar [9203] 1 pWeights_1.length (oLI 9203 pWeights_1))] [] [(true, .any), (true, .any)] true (Bv true))] [2, 6, 9, 10, 11, 17] [2, 9203, 9241, 9242] [.ref 2 0, I changes, slSample false list, I (list.length : Int), I t11, Bv true] [some (.box [.arr 9241, .arr 9242]), some (.fam pWeights_1.length 1 (mLI pWeights_1) (gLI pWeights_1)), some (.arr 1 pLabels_1.length (fS pLabels_1)), some (.oar [9203] 1 pWeights_1.length (oLI 9203 pWeights_1))] [CallOK Try.prog 87 [.agg [.arr 9241, .arr 9242], agSample (at_ list t11.toNat)] (lookO [(9241, .arr 1 ls.length (fS ls)), (9203, .fam ws.length 1 (mLI ws) (gLI ws)), (9242, .oar [9203] 1 ws.length (oLI 9203 ws))]) true (Bv true) (lookO [(9241, .arr 1 pLabels_1.length (fS pLabels_1)), (9203, .fam pWeights_1.length 1 (mLI pWeights_1) (gLI pWeights_1)), (9242, .oar [9203] 1 pWeights_1.length (oLI 9203 pWeights_1))]) ∧ (((.arr 1 ls.length (fS ls) : Ob) = .arr 1 ls.length (fS ls) ∨ obLe noOb true (.arr 1 ls.length (fS ls)) (.arr 1 ls.length (fS ls))) ∧ taggedO false (.arr 1 ls.length (fS ls))) ∧ (((.fam ws.length 1 (mLI ws) (gLI ws) : Ob) = .fam ws.length 1 (mLI ws) (gLI ws) ∨ obLe noOb true (.fam ws.length 1 (mLI ws) (gLI ws)) (.fam ws.length 1 (mLI ws) (gLI ws))) ∧ taggedO false (.fam ws.length 1 (mLI ws) (gLI ws))) ∧ (((.oar [9203] 1 ws.length (oLI 9203 ws) : Ob) = .oar [9203] 1 ws.length (oLI 9203 ws) ∨ obLe noOb true (.oar [9203] 1 ws.length (oLI 9203 ws)) (.oar [9203] 1 ws.length (oLI 9203 ws))) ∧ taggedO false (.oar [9203] 1 ws.length (oLI 9203 ws))) ∧ True] ⟨⟨hc1, ⟨.inl rfl, fun _ _ => tagcS false _⟩, ⟨.inl rfl, (fun _ _ _ _ => tagcI false _)⟩, ⟨.inl rfl, (by intro i_ _; simp [oLI, oLIc, taggedL, tagged])⟩, trivial⟩, trivial⟩ ?_
      refine xe_then ?_
      refine x_true rfl ?_
      refine x_r [] [2, 6, 9, 10, 11] [2, 9203, 9241, 9242] [.ref 2 0, I (changes + 1), slSample false list, I (list.length : Int), I t11] [some (.box [.arr 9241, .arr 9242]), some (.fam pWeights_1.length 1 (mLI pWeights_1) (gLI pWeights_1)), some (.arr 1 pLabels_1.length (fS pLabels_1)), some (.oar [9203] 1 pWeights_1.length (oLI 9203 pWeights_1))] [inR .i64 (changes + 1)] ⟨(inR_i64 (by omega) (by omega)), trivial⟩ ?_
      refine xe_then ?_
      refine x_seq ?_
      rcases Bool.eq_false_or_eq_true (okPerc (Perceptron.mk pLabels_1 pWeights_1)) with h3 | h3
      ·have hpk : okPerc (Perceptron.mk ls pWeights_1) = true := by rw [← htl]; exact h3
       have hst := htn.1 hpk
       have hgo := epR_go hi0.1 hep (by rw [hst])
       rw [hst] at hgo
       refine x_r [(1, .call [(false, .agg [slS false pLabels_1, slLI false pWeights_1])] true (Bv true))] [2, 6, 9, 10, 11, 22] [2, 9203, 9241, 9242] [.ref 2 0, I (changes + 1), slSample false list, I (list.length : Int), I t11, Bv false] [some (.box [.arr 9241, .arr 9242]), some (.fam pWeights_1.length 1 (mLI pWeights_1) (gLI pWeights_1)), some (.arr 1 pLabels_1.length (fS pLabels_1)), some (.oar [9203] 1 pWeights_1.length (oLI 9203 pWeights_1))] [Con Try.prog 34 [.agg [slS false pLabels_1, slLI false pWeights_1]] true (Bv true) ∧ (((false = true → true = true) ∧ 1 = 1 ∧ pLabels_1.length = pLabels_1.length ∧ ∀ i_, i_ < pLabels_1.length → (fS pLabels_1) i_ = (fS pLabels_1) i_ ∨ (AV.idsL ((fS pLabels_1) i_) = [] ∧ leL (fun _ => none) false ((fS pLabels_1) i_) ((fS pLabels_1) i_))) ∧ ((false = true → true = true) ∧ 1 = 1 ∧ pWeights_1.length = pWeights_1.length ∧ ∀ i_, i_ < pWeights_1.length → AV.idsL ((fLI false pWeights_1) i_) = [] ∧ leL (lookO [(9203, .fam pWeights_1.length 1 (mLI pWeights_1) (gLI pWeights_1))]) true ((oLI 9203 pWeights_1) i_) ((fLI false pWeights_1) i_)) ∧ ([] : List AV) = []) ∧ True] ⟨⟨(con_bool h3 (ValidPerceptron_ok (Perceptron.mk pLabels_1 pWeights_1) (fun y hy => okP_sz hok y (by rw [htl] at hy; exact hy)))), ⟨⟨(fun h => by cases h), rfl, rfl, fun i _ => .inl rfl⟩, ⟨⟨(fun h => by cases h), rfl, rfl, oleLI _ _ rfl⟩, rfl⟩⟩, trivial⟩, trivial⟩ ?_
       refine xe_then ?_
       refine x_false rfl ?_
       refine x_skip ?_
       refine xe_block 1 ?_
       refine xe_then ?_
       refine x_r [] [2, 6, 9, 10, 11] [2, 9203, 9241, 9242] [.ref 2 0, I (changes + 1), slSample false list, I (list.length : Int), I (t11 + 1)] [some (.box [.arr 9241, .arr 9242]), some (.fam pWeights_1.length 1 (mLI pWeights_1) (gLI pWeights_1)), some (.arr 1 pLabels_1.length (fS pLabels_1)), some (.oar [9203] 1 pWeights_1.length (oLI 9203 pWeights_1))] [inR .i64 (t11 + 1)] ⟨(inR_i64 (by omega) (by omega)), trivial⟩ ?_
       exact xe_again ((changes + 1), (t11 + 1), pWeights_1, pLabels_1) rfl (show (0 ≤ (t11 + 1) ∧ (t11 + 1) ≤ (list.length : Int)) ∧ (epR p list (t11 + 1).toNat = (Perceptron.mk pLabels_1 pWeights_1, (changes + 1), 0)) ∧ (okPerc (Perceptron.mk pLabels_1 pWeights_1) = true) ∧ (pLabels_1 = p.Labels) ∧ (0 ≤ (changes + 1) ∧ (changes + 1) ≤ (t11 + 1)) ∧ True from ⟨(by omega), (by (rw [htl]; first | (rw [hgo]; rfl) | (rw [hgo]; simp [*]; done))), (by (rw [htl]; exact hpk)), (by exact htl.trans hlb), (by omega), trivial⟩) (by first | (show (((list.length : Int) - (t11 + 1)).toNat : Nat) < ((list.length : Int) - t11).toNat; omega) | (dsimp only; omega))
      have hpk : okPerc (Perceptron.mk ls pWeights_1) = false := by rw [← htl]; exact h3
      have hst := htn.2 hpk
      have hend := epR_stop (m := list.length) hep (by rw [hst]; decide) hi
      rw [hst] at hend
      refine x_r [(1, .call [(false, .agg [slS false pLabels_1, slLI false pWeights_1])] true (Bv false))] [2, 6, 9, 10, 11, 22] [2, 9203, 9241, 9242] [.ref 2 0, I (changes + 1), slSample false list, I (list.length : Int), I t11, Bv true] [some (.box [.arr 9241, .arr 9242]), some (.fam pWeights_1.length 1 (mLI pWeights_1) (gLI pWeights_1)), some (.arr 1 pLabels_1.length (fS pLabels_1)), some (.oar [9203] 1 pWeights_1.length (oLI 9203 pWeights_1))] [Con Try.prog 34 [.agg [slS false pLabels_1, slLI false pWeights_1]] true (Bv false) ∧ (((false = true → true = true) ∧ 1 = 1 ∧ pLabels_1.length = pLabels_1.length ∧ ∀ i_, i_ < pLabels_1.length → (fS pLabels_1) i_ = (fS pLabels_1) i_ ∨ (AV.idsL ((fS pLabels_1) i_) = [] ∧ leL (fun _ => none) false ((fS pLabels_1) i_) ((fS pLabels_1) i_))) ∧ ((false = true → true = true) ∧ 1 = 1 ∧ pWeights_1.length = pWeights_1.length ∧ ∀ i_, i_ < pWeights_1.length → AV.idsL ((fLI false pWeights_1) i_) = [] ∧ leL (lookO [(9203, .fam pWeights_1.length 1 (mLI pWeights_1) (gLI pWeights_1))]) true ((oLI 9203 pWeights_1) i_) ((fLI false pWeights_1) i_)) ∧ ([] : List AV) = []) ∧ True] ⟨⟨(con_bool h3 (ValidPerceptron_ok (Perceptron.mk pLabels_1 pWeights_1) (fun y hy => okP_sz hok y (by rw [htl] at hy; exact hy)))), ⟨⟨(fun h => by cases h), rfl, rfl, fun i _ => .inl rfl⟩, ⟨⟨(fun h => by cases h), rfl, rfl, oleLI _ _ rfl⟩, rfl⟩⟩, trivial⟩, trivial⟩ ?_
      refine xe_then ?_
      refine x_true rfl ?_
      refine xR [] [4, 5] [9203, 9241, 9242] [I 0, I 5] [some (.fam pWeights_1.length 1 (mLI pWeights_1) (gLI pWeights_1)), some (.arr 1 pLabels_1.length (fS pLabels_1)), some (.oar [9203] 1 pWeights_1.length (oLI 9203 pWeights_1))] [] trivial ?_
      refine x_ret ?_
      refine xe_ret_block (xe_ret_then (xe_loop_ret (xe_ret_block (xe_ret_then ?_))))
      refine xe_end (0, 5, pLabels_1, pWeights_1) (show (pLabels_1 = p.Labels) ∧ ((epR p list list.length).2 = (0, 5)) ∧ (5 = 0 → pWeights_1 = (epR p list list.length).1.Weights) ∧ (True) from ⟨(by first | exact hlb | exact htl.trans hlb | (rw [hep]; done) | (rw [hend]; done) | (intro _; rw [hep]) | (intro q; exact absurd q (by decide))), (by first | exact hlb | exact htl.trans hlb | (rw [hep]; done) | (rw [hend]; done) | (intro _; rw [hep]) | (intro q; exact absurd q (by decide))), (by first | exact hlb | exact htl.trans hlb | (rw [hep]; done) | (rw [hend]; done) | (intro _; rw [hep]) | (intro q; exact absurd q (by decide))), trivial⟩) (⟨.inl rfl, .inl rfl, .inl rfl, trivial⟩) (.tup [I 0, I 5]) (by kernel_rfl) (.inl rfl) (fun _ => rfl) (fun _ => (by simp [tagged, taggedL]))
     subst h2
     refine x_r [(2, .lend [(9241, .arr 1 ls.length (fS ls), .arr 1 pLabels_1.length (fS pLabels_1)), (9203, .fam ws.length 1 (mLI ws) (gLI ws), .fam pWeights_1.length 1 (mLI pWeights_1) (gLI pWeights_1)), (9242, .oar [9203] 1 ws.length (oLI 9203 ws), .oar [9203] 1 pWeights_1.length (oLI 9203 pWeights_1))] [] [(true, .any), (true, .any)] true (Bv false))] [2, 6, 9, 10, 11, 17] [2, 9203, 9241, 9242] [.ref 2 0, I changes, slSample false list, I (list.length : Int), I t11, Bv false] [some (.box [.arr 9241, .arr 9242]), some (.fam pWeights_1.length 1 (mLI pWeights_1) (gLI pWeights_1)), some (.arr 1 pLabels_1.length (fS pLabels_1)), some (.oar [9203] 1 pWeights_1.length (oLI 9203 pWeights_1))] [CallOK Try.prog 87 [.agg [.arr 9241, .arr 9242], agSample (at_ list t11.toNat)] (lookO [(9241, .arr 1 ls.length (fS ls)), (9203, .fam ws.length 1 (mLI ws) (gLI ws)), (9242, .oar [9203] 1 ws.length (oLI 9203 ws))]) true (Bv false) (lookO [(9241, .arr 1 pLabels_1.length (fS pLabels_1)), (9203, .fam pWeights_1.length 1 (mLI pWeights_1) (gLI pWeights_1)), (9242, .oar [9203] 1 pWeights_1.length (oLI 9203 pWeights_1))]) ∧ (((.arr 1 ls.length (fS ls) : Ob) = .arr 1 ls.length (fS ls) ∨ obLe noOb true (.arr 1 ls.length (fS ls)) (.arr 1 ls.length (fS ls))) ∧ taggedO false (.arr 1 ls.length (fS ls))) ∧ (((.fam ws.length 1 (mLI ws) (gLI ws) : Ob) = .fam ws.length 1 (mLI ws) (gLI ws) ∨ obLe noOb true (.fam ws.length 1 (mLI ws) (gLI ws)) (.fam ws.length 1 (mLI ws) (gLI ws))) ∧ taggedO false (.fam ws.length 1 (mLI ws) (gLI ws))) ∧ (((.oar [9203] 1 ws.length (oLI 9203 ws) : Ob) = .oar [9203] 1 ws.length (oLI 9203 ws) ∨ obLe noOb true (.oar [9203] 1 ws.length (oLI 9203 ws)) (.oar [9203] 1 ws.length (oLI 9203 ws))) ∧ taggedO false (.oar [9203] 1 ws.length (oLI 9203 ws))) ∧ True] ⟨⟨hc1, ⟨.inl rfl, fun _ _ => tagcS false _⟩, ⟨.inl rfl, (fun _ _ _ _ => tagcI false _)⟩, ⟨.inl rfl, (by intro i_ _; simp [oLI, oLIc, taggedL, tagged])⟩, trivial⟩, trivial⟩ ?_
     refine xe_then ?_
     refine x_false rfl ?_
     refine x_skip ?_
     refine xe_then ?_
     refine x_seq ?_
     rcases Bool.eq_false_or_eq_true (okPerc (Perceptron.mk pLabels_1 pWeights_1)) with h4 | h4
     ·have hpk : okPerc (Perceptron.mk ls pWeights_1) = true := by rw [← htl]; exact h4
      have hst := htn.1 hpk
      have hgo := epR_go hi0.1 hep (by rw [hst])
      rw [hst] at hgo
      refine x_r [(1, .call [(false, .agg [slS false pLabels_1, slLI false pWeights_1])] true (Bv true))] [2, 6, 9, 10, 11, 22] [2, 9203, 9241, 9242] [.ref 2 0, I changes, slSample false list, I (list.length : Int), I t11, Bv false] [some (.box [.arr 9241, .arr 9242]), some (.fam pWeights_1.length 1 (mLI pWeights_1) (gLI pWeights_1)), some (.arr 1 pLabels_1.length (fS pLabels_1)), some (.oar [9203] 1 pWeights_1.length (oLI 9203 pWeights_1))] [Con Try.prog 34 [.agg [slS false pLabels_1, slLI false pWeights_1]] true (Bv true) ∧ (((false = true → true = true) ∧ 1 = 1 ∧ pLabels_1.length = pLabels_1.length ∧ ∀ i_, i_ < pLabels_1.length → (fS pLabels_1) i_ = (fS pLabels_1) i_ ∨ (AV.idsL ((fS pLabels_1) i_) = [] ∧ leL (fun _ => none) false ((fS pLabels_1) i_) ((fS pLabels_1) i_))) ∧ ((false = true → true = true) ∧ 1 = 1 ∧ pWeights_1.length = pWeights_1.length ∧ ∀ i_, i_ < pWeights_1.length → AV.idsL ((fLI false pWeights_1) i_) = [] ∧ leL (lookO [(9203, .fam pWeights_1.length 1 (mLI pWeights_1) (gLI pWeights_1))]) true ((oLI 9203 pWeights_1) i_) ((fLI false pWeights_1) i_)) ∧ ([] : List AV) = []) ∧ True] ⟨⟨(con_bool h4 (ValidPerceptron_ok (Perceptron.mk pLabels_1 pWeights_1) (fun y hy => okP_sz hok y (by rw [htl] at hy; exact hy)))), ⟨⟨(fun h => by cases h), rfl, rfl, fun i _ => .inl rfl⟩, ⟨⟨(fun h => by cases h), rfl, rfl, oleLI _ _ rfl⟩, rfl⟩⟩, trivial⟩, trivial⟩ ?_
      refine xe_then ?_
      refine x_false rfl ?_
      refine x_skip ?_
      refine xe_block 1 ?_
      refine xe_then ?_
      refine x_r [] [2, 6, 9, 10, 11] [2, 9203, 9241, 9242] [.ref 2 0, I changes, slSample false list, I (list.length : Int), I (t11 + 1)] [some (.box [.arr 9241, .arr 9242]), some (.fam pWeights_1.length 1 (mLI pWeights_1) (gLI pWeights_1)), some (.arr 1 pLabels_1.length (fS pLabels_1)), some (.oar [9203] 1 pWeights_1.length (oLI 9203 pWeights_1))] [inR .i64 (t11 + 1)] ⟨(inR_i64 (by omega) (by omega)), trivial⟩ ?_
      exact xe_again (changes, (t11 + 1), pWeights_1, pLabels_1) rfl (show (0 ≤ (t11 + 1) ∧ (t11 + 1) ≤ (list.length : Int)) ∧ (epR p list (t11 + 1).toNat = (Perceptron.mk pLabels_1 pWeights_1, changes, 0)) ∧ (okPerc (Perceptron.mk pLabels_1 pWeights_1) = true) ∧ (pLabels_1 = p.Labels) ∧ (0 ≤ changes ∧ changes ≤ (t11 + 1)) ∧ True from ⟨(by omega), (by (rw [htl]; first | (rw [hgo]; rfl) | (rw [hgo]; simp [*]; done))), (by (rw [htl]; exact hpk)), (by exact htl.trans hlb), (by omega), trivial⟩) (by first | (show (((list.length : Int) - (t11 + 1)).toNat : Nat) < ((list.length : Int) - t11).toNat; omega) | (dsimp only; omega))
     have hpk : okPerc (Perceptron.mk ls pWeights_1) = false := by rw [← htl]; exact h4
     have hst := htn.2 hpk
     have hend := epR_stop (m := list.length) hep (by rw [hst]; decide) hi
     rw [hst] at hend
     refine x_r [(1, .call [(false, .agg [slS false pLabels_1, slLI false pWeights_1])] true (Bv false))] [2, 6, 9, 10, 11, 22] [2, 9203, 9241, 9242] [.ref 2 0, I changes, slSample false list, I (list.length : Int), I t11, Bv true] [some (.box [.arr 9241, .arr 9242]), some (.fam pWeights_1.length 1 (mLI pWeights_1) (gLI pWeights_1)), some (.arr 1 pLabels_1.length (fS pLabels_1)), some (.oar [9203] 1 pWeights_1.length (oLI 9203 pWeights_1))] [Con Try.prog 34 [.agg [slS false pLabels_1, slLI false pWeights_1]] true (Bv false) ∧ (((false = true → true = true) ∧ 1 = 1 ∧ pLabels_1.length = pLabels_1.length ∧ ∀ i_, i_ < pLabels_1.length → (fS pLabels_1) i_ = (fS pLabels_1) i_ ∨ (AV.idsL ((fS pLabels_1) i_) = [] ∧ leL (fun _ => none) false ((fS pLabels_1) i_) ((fS pLabels_1) i_))) ∧ ((false = true → true = true) ∧ 1 = 1 ∧ pWeights_1.length = pWeights_1.length ∧ ∀ i_, i_ < pWeights_1.length → AV.idsL ((fLI false pWeights_1) i_) = [] ∧ leL (lookO [(9203, .fam pWeights_1.length 1 (mLI pWeights_1) (gLI pWeights_1))]) true ((oLI 9203 pWeights_1) i_) ((fLI false pWeights_1) i_)) ∧ ([] : List AV) = []) ∧ True] ⟨⟨(con_bool h4 (ValidPerceptron_ok (Perceptron.mk pLabels_1 pWeights_1) (fun y hy => okP_sz hok y (by rw [htl] at hy; exact hy)))), ⟨⟨(fun h => by cases h), rfl, rfl, fun i _ => .inl rfl⟩, ⟨⟨(fun h => by cases h), rfl, rfl, oleLI _ _ rfl⟩, rfl⟩⟩, trivial⟩, trivial⟩ ?_
     refine xe_then ?_
     refine x_true rfl ?_
     refine xR [] [4, 5] [9203, 9241, 9242] [I 0, I 5] [some (.fam pWeights_1.length 1 (mLI pWeights_1) (gLI pWeights_1)), some (.arr 1 pLabels_1.length (fS pLabels_1)), some (.oar [9203] 1 pWeights_1.length (oLI 9203 pWeights_1))] [] trivial ?_
     refine x_ret ?_
     refine xe_ret_block (xe_ret_then (xe_loop_ret (xe_ret_block (xe_ret_then ?_))))
     refine xe_end (0, 5, pLabels_1, pWeights_1) (show (pLabels_1 = p.Labels) ∧ ((epR p list list.length).2 = (0, 5)) ∧ (5 = 0 → pWeights_1 = (epR p list list.length).1.Weights) ∧ (True) from ⟨(by first | exact hlb | exact htl.trans hlb | (rw [hep]; done) | (rw [hend]; done) | (intro _; rw [hep]) | (intro q; exact absurd q (by decide))), (by first | exact hlb | exact htl.trans hlb | (rw [hep]; done) | (rw [hend]; done) | (intro _; rw [hep]) | (intro q; exact absurd q (by decide))), (by first | exact hlb | exact htl.trans hlb | (rw [hep]; done) | (rw [hend]; done) | (intro _; rw [hep]) | (intro q; exact absurd q (by decide))), trivial⟩) (⟨.inl rfl, .inl rfl, .inl rfl, trivial⟩) (.tup [I 0, I 5]) (by kernel_rfl) (.inl rfl) (fun _ => rfl) (fun _ => (by simp [tagged, taggedL]))
    have hie : t11.toNat = list.length := by omega
    rw [hie] at hep
    refine x_r [(0, .dec false)] [2, 6, 9, 10, 11, 12] [2, 9203, 9241, 9242] [.ref 2 0, I changes, slSample false list, I (list.length : Int), I t11, Bv false] [some (.box [.arr 9241, .arr 9242]), some (.fam ws.length 1 (mLI ws) (gLI ws)), some (.arr 1 ls.length (fS ls)), some (.oar [9203] 1 ws.length (oLI 9203 ws))] [¬ (t11 < (list.length : Int))] ⟨h1, trivial⟩ ?_
    refine xe_then ?_
    refine x_seq ?_
    refine x_false rfl ?_
    refine x_exit ?_
    refine xe_exit_then ?_
    refine xe_loop_exit ?_
    refine xe_exit_same ?_
    refine xe_then ?_
    refine xR [] [4, 5] [9203, 9241, 9242] [I changes, I 0] [some (.fam ws.length 1 (mLI ws) (gLI ws)), some (.arr 1 ls.length (fS ls)), some (.oar [9203] 1 ws.length (oLI 9203 ws))] [] trivial ?_
    refine x_ret ?_
    refine xe_end (changes, 0, ls, ws) (show (ls = p.Labels) ∧ ((epR p list list.length).2 = (changes, 0)) ∧ (0 = 0 → ws = (epR p list list.length).1.Weights) ∧ (True) from ⟨(by first | exact hlb | exact htl.trans hlb | (rw [hep]; done) | (rw [hend]; done) | (intro _; rw [hep]) | (intro q; exact absurd q (by decide))), (by first | exact hlb | exact htl.trans hlb | (rw [hep]; done) | (rw [hend]; done) | (intro _; rw [hep]) | (intro q; exact absurd q (by decide))), (by first | exact hlb | exact htl.trans hlb | (rw [hep]; done) | (rw [hend]; done) | (intro _; rw [hep]) | (intro q; exact absurd q (by decide))), trivial⟩) (⟨.inl rfl, .inl rfl, .inl rfl, trivial⟩) (.tup [I changes, I 0]) (by kernel_rfl) (.inl rfl) (fun _ => rfl) (fun _ => (by simp [tagged, taggedL]))
  obtain ⟨⟨n, c, p_Labels, p_Weights⟩, ⟨hh0, hh1, hh2, _⟩, hc⟩ := hh
  exact ⟨n, c, p_Labels, p_Weights, hh0, hh1, hh2, hc⟩

end Go.Proofs.Ytblhhmcplocepaa.Ax
