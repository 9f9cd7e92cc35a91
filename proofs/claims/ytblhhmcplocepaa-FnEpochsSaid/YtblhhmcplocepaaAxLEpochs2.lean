/- Contracts that the statement FnEpochs reaches, part 2. No conditions. -/
import Derived.Test.YtblhhmcplocepaaAxLEpochs1
import Derived.Test.YtblhhmcplocepaaAxR
import Derived.Test.YtblhhmcplocepaaAxS
namespace Go.Proofs.Ytblhhmcplocepaa.Ax
open Go.RowKit Go.ChangeShapes Go.WideShapes
set_option linter.unusedVariables false
set_option linter.unusedSimpArgs false


-- spec.l12Find
theorem l12Find_ok (p : Perceptron) (label : ByteArray) : Con Try.prog 89 [.ptr false [slS false p.Labels, slLI false p.Weights], Sv label] true (I (fndL p.Labels label)) := by
  refine fn_ok (fn := Try.f89) (nt := 25) Try.func89 rfl rfl rfl rfl (by simp [taggedL, tagged, tagLI, tagS]) fun B hB => ?_
  refine aw_lens (x := .ptr false [slS false p.Labels, slLI false p.Weights]) 0 rfl (fun len_p => ?_)
  simp [LenOK, LenL, cI, cLI, cS, fI, fLI, fS, slI, slLI, slS] at len_p
  refine aR [] [0, 1] [] [.ptr false [slS false p.Labels, slLI false p.Weights], Sv label] [] [] hB trivial ?_
  refine aw_seq ?_
  refine aR [] [0, 1, 5] [] [.ptr false [slS false p.Labels, slLI false p.Weights], Sv label, I 0] [] [] hB trivial ?_
  refine aw_block ?_
  refine aw_loop (fun gn gσ => ∃ (i : Int), gn = ((p.Labels.length : Int) - i).toNat ∧ (0 ≤ i ∧ i ≤ (p.Labels.length : Int)) ∧ (∀ j : Nat, (j : Int) < i → ¬ at_ p.Labels j = label) ∧ gσ = mkS [(0, .ptr false [slS false p.Labels, slLI false p.Weights]), (1, Sv label), (5, I i)] []) (((p.Labels.length : Int) - 0).toNat) ⟨0, rfl, (by omega), (by intro j hj; omega), rfl⟩ (fun gn gσ hI => ?_)
  obtain ⟨i, rfl, hi0, hne, rfl⟩ := hI
  refine aw_seq ?_
  refine aw_seq ?_
  by_cases h1 : i < (p.Labels.length : Int)
  ·have hi : i.toNat < p.Labels.length := by omega
   refine aw_r [(6, .dec true)] [0, 1, 5, 12] [] [.ptr false [slS false p.Labels, slLI false p.Weights], Sv label, I i, Bv true] [] [i < (p.Labels.length : Int)] hB ⟨h1, trivial⟩ ?_
   refine ae_then ?_
   refine aw_true rfl ?_
   refine aw_skip ?_
   refine ae_then ?_
   refine aw_seq ?_
   refine aw_block ?_
   refine aw_seq ?_
   by_cases h2 : (at_ p.Labels i.toNat) = label
   ·have hfin : fndL p.Labels label = i.toNat := firstN_hit hi (decide_eq_true h2) (fun j hj => decide_eq_false (hne j (by omega)))
    refine aw_r [(8, .dec true)] [0, 1, 5, 23] [] [.ptr false [slS false p.Labels, slLI false p.Weights], Sv label, I i, Bv true] [] [(0 : Int) ≤ i ∧ i < (p.Labels.length : Int), (at_ p.Labels i.toNat) = label] hB ⟨⟨(by omega), (by omega)⟩, h2, trivial⟩ ?_
    refine ae_then ?_
    refine aw_true rfl ?_
    refine aR [] [4] [] [I i] [] [] hB trivial ?_
    refine aw_ret ?_
    refine ae_ret_block (ae_ret_then (ae_ret_then (ae_ret_block (ae_ret_then ?_))))
    refine ae_ret hB (I i) (by kernel_rfl) (.inl (by refine congrArg I ?_; first | (rw [hfin]; done) | (rw [hfin]; omega))) rfl (fun _ => trivial)
   refine aw_r [(8, .dec false)] [0, 1, 5, 23] [] [.ptr false [slS false p.Labels, slLI false p.Weights], Sv label, I i, Bv false] [] [(0 : Int) ≤ i ∧ i < (p.Labels.length : Int), ¬ ((at_ p.Labels i.toNat) = label)] hB ⟨⟨(by omega), (by omega)⟩, h2, trivial⟩ ?_
   refine ae_then ?_
   refine aw_false rfl ?_
   refine aw_skip ?_
   refine ae_block 1 ?_
   refine ae_then ?_
   refine aw_r [] [0, 1, 5] [] [.ptr false [slS false p.Labels, slLI false p.Weights], Sv label, I (i + 1)] [] [inR .i64 (i + 1)] hB ⟨(inR_i64 (by omega) (by omega)), trivial⟩ ?_
   exact ae_again _ (by omega) ⟨(i + 1), rfl, (by omega), (by intro j hj; by_cases ej : j = i.toNat; (subst ej; assumption); exact hne j (by omega)), rfl⟩
  have hfin : fndL p.Labels label = -1 := firstN_none (fun j hj => decide_eq_false (hne j (by omega)))
  refine aw_r [(6, .dec false)] [0, 1, 5, 12] [] [.ptr false [slS false p.Labels, slLI false p.Weights], Sv label, I i, Bv false] [] [¬ (i < (p.Labels.length : Int))] hB ⟨h1, trivial⟩ ?_
  refine ae_then ?_
  refine aw_false rfl ?_
  refine aw_exit ?_
  refine ae_exit_then ?_
  refine ae_exit_then ?_
  refine ae_exit_same ?_
  refine ae_then ?_
  refine aR [] [4] [] [I (-1)] [] [] hB trivial ?_
  refine aw_ret ?_
  refine ae_ret hB (I (-1)) (by kernel_rfl) (.inl (by refine congrArg I ?_; first | (rw [hfin]; done) | (rw [hfin]; omega))) rfl (fun _ => trivial)


-- spec.l12Scores
theorem l12Scores_ok (p : Perceptron) (xs : List Int) (hp : okPerc p = true) (hx : (∀ i, 0 ≤ at_ xs i ∧ at_ xs i ≤ 512) ∧ xs.length = 25) : ∃ (v : List Int), (v = scR p.Weights xs) ∧ Con Try.prog 40 [.ptr false [slS false p.Labels, slLI false p.Weights], slI false xs] true (slI true v) := by
  have hq := okPerc_iff.1 hp
  have hln := okLabels_n hq.1
  have hxl := hx.2
  have hh : ∃ r : (List Int), ((r = scR p.Weights xs) ∧ (True)) ∧ CallOK Try.prog 40 [.ptr false [slS false p.Labels, slLI false p.Weights], slI false xs] (lookO []) true (slI true r) (lookO []) := by
    refine fn_okX (Φ := fun r : (List Int) => (r = scR p.Weights xs) ∧ (True)) [] (fun r => []) (fn := Try.f40) (nt := 47) Try.func40 rfl rfl (args := [.ptr false [slS false p.Labels, slLI false p.Weights], slI false xs]) rfl (allcons (.inl ⟨rfl, by simp [tagged, taggedL, tagLI, tagS]⟩) (allcons (.inl ⟨rfl, tagI false _⟩) allnil)) (res := fun r => slI true r) ?_
    refine xR [] [0, 1] [] [.ptr false [slS false p.Labels, slLI false p.Weights], slI false xs] [] [] trivial ?_
    refine xR [(0, .new 9)] [0, 1, 5] [9] [.ptr false [slS false p.Labels, slLI false p.Weights], slI false xs, .arr 9] [some (.arr 1 0 (litF [] 1))] [] trivial ?_
    refine x_seq ?_
    refine xR [] [0, 1, 5, 6] [9] [.ptr false [slS false p.Labels, slLI false p.Weights], slI false xs, .arr 9, I 0] [some (.arr 1 0 (litF [] 1))] [] trivial ?_
    refine x_block ?_
    refine x_weak [] (T := [(0, .ptr false [slS false p.Labels, slLI false p.Weights]), (1, slI false xs), (5, .arr 9), (6, I 0)]) (O := [(9, .arr 1 (([] : List Int).length) (fI ([] : List Int)))]) rfl (⟨.inl rfl, .inl rfl, .inl rfl, .inl rfl, trivial⟩) (⟨.inr ⟨rfl, (by first | rfl | (simp; done) | (simp; omega) | omega), fun i_ hi_ => absurd hi_ (Nat.not_lt_zero _)⟩, trivial⟩) ?_
    refine x_loop (X := (List Int) × Int) (fun x => mkS [(0, .ptr false [slS false p.Labels, slLI false p.Weights]), (1, slI false xs), (5, .arr 9), (6, I x.2)] [(9, .arr 1 x.1.length (fI x.1))]) (fun x => (0 ≤ x.2 ∧ x.2 ≤ (p.Weights.length : Int)) ∧ (x.1 = (p.Weights.take x.2.toNat).map fun r => scT r xs 25) ∧ ((x.1.length : Int) = x.2) ∧ True) (fun x => ((p.Weights.length : Int) - x.2).toNat) (([] : List Int), 0) rfl (show (0 ≤ (0 : Int) ∧ (0 : Int) ≤ (p.Weights.length : Int)) ∧ (([] : List Int) = (p.Weights.take (0 : Int).toNat).map fun r => scT r xs 25) ∧ ((([] : List Int).length : Int) = (0 : Int)) ∧ True from ⟨(by omega), (by rfl), (by rfl), trivial⟩) (fun x hI => ?_)
    obtain ⟨out, i⟩ := x
    obtain ⟨hi0, hsc, hsl, _⟩ : (0 ≤ i ∧ i ≤ (p.Weights.length : Int)) ∧ (out = (p.Weights.take i.toNat).map fun r => scT r xs 25) ∧ ((out.length : Int) = i) ∧ True := hI
    show XW _ _ _ _ (mkS [(0, .ptr false [slS false p.Labels, slLI false p.Weights]), (1, slI false xs), (5, .arr 9), (6, I i)] [(9, .arr 1 out.length (fI out))]) _ _
    refine x_seq ?_
    refine x_seq ?_
    by_cases h1 : i < (p.Weights.length : Int)
    ·have hi : i.toNat < p.Weights.length := by omega
     have hr := okRows_at hq.2.2 hi
     refine x_r [(6, .dec true)] [0, 1, 5, 6, 16] [9] [.ptr false [slS false p.Labels, slLI false p.Weights], slI false xs, .arr 9, I i, Bv true] [some (.arr 1 out.length (fI out))] [i < (p.Weights.length : Int)] ⟨h1, trivial⟩ ?_
     refine xe_then ?_
     refine x_true rfl ?_
     refine x_skip ?_
     refine xe_then ?_
     refine x_seq ?_
     refine x_block ?_
     refine xR [] [0, 1, 5, 6, 7] [9] [.ptr false [slS false p.Labels, slLI false p.Weights], slI false xs, .arr 9, I i, I 0] [some (.arr 1 out.length (fI out))] [] trivial ?_
     refine x_seq ?_
     refine xR [] [0, 1, 5, 6, 7, 8] [9] [.ptr false [slS false p.Labels, slLI false p.Weights], slI false xs, .arr 9, I i, I 0, I 0] [some (.arr 1 out.length (fI out))] [] trivial ?_
     refine x_block ?_
     refine x_loop (X := Int × Int) (fun x => mkS [(0, .ptr false [slS false p.Labels, slLI false p.Weights]), (1, slI false xs), (5, .arr 9), (6, I i), (7, I x.1), (8, I x.2)] [(9, .arr 1 out.length (fI out))]) (fun x => (0 ≤ x.2 ∧ x.2 ≤ 25) ∧ (x.1 = scT (at_ p.Weights i.toNat) xs x.2.toNat) ∧ True) (fun x => ((25 : Int) - x.2).toNat) (0, 0) rfl (show (0 ≤ (0 : Int) ∧ (0 : Int) ≤ 25) ∧ ((0 : Int) = scT (at_ p.Weights i.toNat) xs (0 : Int).toNat) ∧ True from ⟨(by omega), (by rfl), trivial⟩) (fun x hI => ?_)
     obtain ⟨sum, k⟩ := x
     obtain ⟨hk0, hsum, _⟩ : (0 ≤ k ∧ k ≤ 25) ∧ (sum = scT (at_ p.Weights i.toNat) xs k.toNat) ∧ True := hI
     show XW _ _ _ _ (mkS [(0, .ptr false [slS false p.Labels, slLI false p.Weights]), (1, slI false xs), (5, .arr 9), (6, I i), (7, I sum), (8, I k)] [(9, .arr 1 out.length (fI out))]) _ _
     refine x_seq ?_
     refine x_seq ?_
     by_cases h2 : k < (xs.length : Int)
     ·have hk : k.toNat < 25 := by omega
      have hrk := hr.2 k.toNat hk
      have hxk := hx.1 k.toNat
      have hmx := mulX_bd hrk hxk
      have hsb := scT_bd hr.2 hx.1 k.toNat (by omega)
      refine x_r [(3, .dec true)] [0, 1, 5, 6, 7, 8, 22] [9] [.ptr false [slS false p.Labels, slLI false p.Weights], slI false xs, .arr 9, I i, I sum, I k, Bv true] [some (.arr 1 out.length (fI out))] [k < (xs.length : Int)] ⟨h2, trivial⟩ ?_
      refine xe_then ?_
      refine x_true rfl ?_
      refine x_skip ?_
      refine xe_then ?_
      refine x_seq ?_
      refine x_block ?_
      refine x_r [] [0, 1, 5, 6, 7, 8] [9] [.ptr false [slS false p.Labels, slLI false p.Weights], slI false xs, .arr 9, I i, I (sum + ((at_ (at_ p.Weights i.toNat) k.toNat) * (at_ xs k.toNat))), I k] [some (.arr 1 out.length (fI out))] [(0 : Int) ≤ i ∧ i < (p.Weights.length : Int), (0 : Int) ≤ k ∧ k < (((at_ p.Weights i.toNat).length) : Int), (0 : Int) ≤ k ∧ k < (xs.length : Int), inR .i64 ((at_ (at_ p.Weights i.toNat) k.toNat) * (at_ xs k.toNat)), inR .i64 (sum + ((at_ (at_ p.Weights i.toNat) k.toNat) * (at_ xs k.toNat)))] ⟨⟨(by omega), (by omega)⟩, ⟨(by omega), (by omega)⟩, ⟨(by omega), (by omega)⟩, (inR_i64 (by omega) (by omega)), (inR_i64 (by omega) (by omega)), trivial⟩ ?_
      refine xe_block 3 ?_
      refine xe_then ?_
      refine x_r [] [0, 1, 5, 6, 7, 8] [9] [.ptr false [slS false p.Labels, slLI false p.Weights], slI false xs, .arr 9, I i, I (sum + ((at_ (at_ p.Weights i.toNat) k.toNat) * (at_ xs k.toNat))), I (k + 1)] [some (.arr 1 out.length (fI out))] [inR .i64 (k + 1)] ⟨(inR_i64 (by omega) (by omega)), trivial⟩ ?_
      exact xe_again ((sum + ((at_ (at_ p.Weights i.toNat) k.toNat) * (at_ xs k.toNat))), (k + 1)) rfl (show (0 ≤ (k + 1) ∧ (k + 1) ≤ 25) ∧ ((sum + ((at_ (at_ p.Weights i.toNat) k.toNat) * (at_ xs k.toNat))) = scT (at_ p.Weights i.toNat) xs (k + 1).toNat) ∧ True from ⟨(by omega), (by rw [scT_1 hk0.1, ← hsum]), trivial⟩) (by first | (show (((25 : Int) - (k + 1)).toNat : Nat) < ((25 : Int) - k).toNat; omega) | (dsimp only; omega))
     have hie2 : k.toNat = 25 := by omega
     rw [hie2] at hsum
     refine x_r [(3, .dec false)] [0, 1, 5, 6, 7, 8, 22] [9] [.ptr false [slS false p.Labels, slLI false p.Weights], slI false xs, .arr 9, I i, I sum, I k, Bv false] [some (.arr 1 out.length (fI out))] [¬ (k < (xs.length : Int))] ⟨h2, trivial⟩ ?_
     refine xe_then ?_
     refine x_false rfl ?_
     refine x_exit ?_
     refine xe_exit_then ?_
     refine xe_loop_exit ?_
     refine xe_exit_same ?_
     refine xe_then ?_
     refine x_r [(2, .new 44), (3, .new 45)] [0, 1, 5, 6] [45] [.ptr false [slS false p.Labels, slLI false p.Weights], slI false xs, .arr 45, I i] [some (.arr 1 (out.length + 1) (catF out.length (fI out) (litF [I sum] 1)))] [(out.length + 1) * 8 ≤ 140737488355328] ⟨(by omega), trivial⟩ ?_
     refine xe_block 1 ?_
     refine xe_then ?_
     refine x_r [] [0, 1, 5, 6] [45] [.ptr false [slS false p.Labels, slLI false p.Weights], slI false xs, .arr 45, I (i + 1)] [some (.arr 1 (out.length + 1) (catF out.length (fI out) (litF [I sum] 1)))] [inR .i64 (i + 1)] ⟨(inR_i64 (by omega) (by omega)), trivial⟩ ?_
     refine xe_weak [(9, 45)] (T := [(0, .ptr false [slS false p.Labels, slLI false p.Weights]), (1, slI false xs), (5, .arr 9), (6, I (i + 1))]) (O := [(9, .arr 1 ((out ++ [sum]).length) (fI (out ++ [sum])))]) rfl (⟨.inl rfl, .inl rfl, .inl rfl, .inl rfl, trivial⟩) (⟨.inr ⟨rfl, (by first | rfl | (simp; done) | (simp; omega) | omega), fun i_ hi_ => .inl (cat_snoc (enc := cI) (xs := out) rfl i_ hi_)⟩, trivial⟩) (xe_again ((out ++ [sum]), (i + 1)) rfl (show (0 ≤ (i + 1) ∧ (i + 1) ≤ (p.Weights.length : Int)) ∧ ((out ++ [sum]) = (p.Weights.take (i + 1).toNat).map fun r => scT r xs 25) ∧ (((out ++ [sum]).length : Int) = (i + 1)) ∧ True from ⟨(by omega), (by rw [scR_take hi0.1 hi, ← hsc, ← hsum]), (by simp; omega), trivial⟩) (by first | (show (((p.Weights.length : Int) - (i + 1)).toNat : Nat) < ((p.Weights.length : Int) - i).toNat; omega) | (dsimp only; omega)))
    have hie : i.toNat = p.Weights.length := by omega
    rw [hie, List.take_of_length_le (Nat.le_refl _)] at hsc
    refine x_r [(6, .dec false)] [0, 1, 5, 6, 16] [9] [.ptr false [slS false p.Labels, slLI false p.Weights], slI false xs, .arr 9, I i, Bv false] [some (.arr 1 out.length (fI out))] [¬ (i < (p.Weights.length : Int))] ⟨h1, trivial⟩ ?_
    refine xe_then ?_
    refine x_false rfl ?_
    refine x_exit ?_
    refine xe_exit_then ?_
    refine xe_loop_exit ?_
    refine xe_exit_same ?_
    refine xe_then ?_
    refine xR [] [4] [9] [.arr 9] [some (.arr 1 out.length (fI out))] [] trivial ?_
    refine x_ret ?_
    refine xe_end out (show (out = scR p.Weights xs) ∧ (True) from ⟨(by exact hsc), trivial⟩) (trivial) (.arr 9) (by kernel_rfl) (.inr ⟨(fun _ => rfl), rfl, rfl, fun i _ => .inl rfl⟩) (fun _ => rfl) (fun _ => (tagI true _))
  obtain ⟨v, ⟨hh0, _⟩, hc⟩ := hh
  exact ⟨v, hh0, hc⟩


-- spec.l12Best
theorem l12Best_ok (list : List Int) (hl : 1 ≤ list.length) : Con Try.prog 46 [slI false list] true (I (bstI list)) := by
  refine fn_ok (fn := Try.f46) (nt := 22) Try.func46 rfl rfl rfl rfl (by simp [taggedL, tagged, tagI]) fun B hB => ?_
  refine aw_lens (x := slI false list) 0 rfl (fun len_list => ?_)
  simp [LenOK, LenL, cI, fI, slI] at len_list
  refine aR [] [0] [] [slI false list] [] [] hB trivial ?_
  refine aR [] [0, 3] [] [slI false list, I 0] [] [] hB trivial ?_
  refine aw_seq ?_
  refine aR [] [0, 3, 4] [] [slI false list, I 0, I 1] [] [] hB trivial ?_
  refine aw_block ?_
  refine aw_loop (fun gn gσ => ∃ (best : Int) (i : Int), gn = ((list.length : Int) - i).toNat ∧ (1 ≤ i ∧ i ≤ (list.length : Int)) ∧ (best = bst list i.toNat) ∧ (0 ≤ best ∧ best < (list.length : Int)) ∧ gσ = mkS [(0, slI false list), (3, I best), (4, I i)] []) (((list.length : Int) - 1).toNat) ⟨0, 1, rfl, (by omega), (by exact (bst_one list).symm), (by omega), rfl⟩ (fun gn gσ hI => ?_)
  obtain ⟨best, i, rfl, hi0, hb0, hbb, rfl⟩ := hI
  refine aw_seq ?_
  refine aw_seq ?_
  by_cases h1 : i < (list.length : Int)
  ·have hi : i.toNat < list.length := by omega
   have hbo := bst_ok list i.toNat
   refine aw_r [(3, .dec true)] [0, 3, 4, 8] [] [slI false list, I best, I i, Bv true] [] [i < (list.length : Int)] hB ⟨h1, trivial⟩ ?_
   refine ae_then ?_
   refine aw_true rfl ?_
   refine aw_skip ?_
   refine ae_then ?_
   refine aw_seq ?_
   refine aw_block ?_
   refine aw_seq ?_
   by_cases h2 : (at_ list best.toNat) < (at_ list i.toNat)
   ·refine aw_r [(8, .dec true)] [0, 3, 4, 19] [] [slI false list, I best, I i, Bv true] [] [(0 : Int) ≤ i ∧ i < (list.length : Int), (0 : Int) ≤ best ∧ best < (list.length : Int), (at_ list best.toNat) < (at_ list i.toNat)] hB ⟨⟨(by omega), (by omega)⟩, ⟨(by omega), (by omega)⟩, h2, trivial⟩ ?_
    refine ae_then ?_
    refine aw_true rfl ?_
    refine aw_r [] [0, 3, 4] [] [slI false list, I i, I i] [] [] hB trivial ?_
    refine ae_block 1 ?_
    refine ae_then ?_
    refine aw_r [] [0, 3, 4] [] [slI false list, I i, I (i + 1)] [] [inR .i64 (i + 1)] hB ⟨(inR_i64 (by omega) (by omega)), trivial⟩ ?_
    exact ae_again _ (by omega) ⟨i, (i + 1), rfl, (by omega), (by first | (rw [bst_1 (by omega), ← hb0, if_pos (by assumption)]; done) | (rw [bst_1 (by omega), ← hb0, if_neg (by assumption)])), (by omega), rfl⟩
   refine aw_r [(8, .dec false)] [0, 3, 4, 19] [] [slI false list, I best, I i, Bv false] [] [(0 : Int) ≤ i ∧ i < (list.length : Int), (0 : Int) ≤ best ∧ best < (list.length : Int), ¬ ((at_ list best.toNat) < (at_ list i.toNat))] hB ⟨⟨(by omega), (by omega)⟩, ⟨(by omega), (by omega)⟩, h2, trivial⟩ ?_
   refine ae_then ?_
   refine aw_false rfl ?_
   refine aw_skip ?_
   refine ae_block 1 ?_
   refine ae_then ?_
   refine aw_r [] [0, 3, 4] [] [slI false list, I best, I (i + 1)] [] [inR .i64 (i + 1)] hB ⟨(inR_i64 (by omega) (by omega)), trivial⟩ ?_
   exact ae_again _ (by omega) ⟨best, (i + 1), rfl, (by omega), (by first | (rw [bst_1 (by omega), ← hb0, if_pos (by assumption)]; done) | (rw [bst_1 (by omega), ← hb0, if_neg (by assumption)])), (by omega), rfl⟩
  have hie : i.toNat = list.length := by omega
  rw [hie] at hb0
  refine aw_r [(3, .dec false)] [0, 3, 4, 8] [] [slI false list, I best, I i, Bv false] [] [¬ (i < (list.length : Int))] hB ⟨h1, trivial⟩ ?_
  refine ae_then ?_
  refine aw_false rfl ?_
  refine aw_exit ?_
  refine ae_exit_then ?_
  refine ae_exit_then ?_
  refine ae_exit_same ?_
  refine ae_then ?_
  refine aR [] [2] [] [I best] [] [] hB trivial ?_
  refine aw_ret ?_
  refine ae_ret hB (I best) (by kernel_rfl) (.inl (by exact congrArg I hb0)) rfl (fun _ => trivial)


-- spec.l12Ok
theorem l12Ok_ok (p : Perceptron) (ok : ∀ y ∈ p.Labels, y.size ≤ 9223372036854775807) : Con Try.prog 38 [.ptr false [slS false p.Labels, slLI false p.Weights]] true (Bv (okPerc p)) := by
  refine fn_ok (fn := Try.f38) (nt := 58) Try.func38 rfl rfl rfl rfl (by simp [taggedL, tagged, tagLI, tagS]) fun B hB => ?_
  refine aw_lens (x := .ptr false [slS false p.Labels, slLI false p.Weights]) 0 rfl (fun len_p => ?_)
  simp [LenOK, LenL, cI, cLI, cS, fI, fLI, fS, slI, slLI, slS] at len_p
  refine aR [] [0] [] [.ptr false [slS false p.Labels, slLI false p.Weights]] [] [] hB trivial ?_
  refine aw_seq ?_
  refine aw_seq ?_
  rcases Bool.eq_false_or_eq_true (okLabels p.Labels) with h1 | h1
  ·have hol := h1
   by_cases h2 : (p.Weights.length : Int) = (p.Labels.length : Int)
   ·have hll : p.Weights.length = p.Labels.length := by omega
    refine aw_r [(4, .call [(true, .any)] true (Bv true)), (17, .dec false)] [0, 23] [] [.ptr false [slS false p.Labels, slLI false p.Weights], Bv false] [] [Con Try.prog 50 [slS false p.Labels] true (Bv true) ∧ True, ¬ ((p.Weights.length : Int) ≠ (p.Labels.length : Int))] hB ⟨⟨(con_bool h1 (l12Labels_ok p.Labels ok)), trivial⟩, (fun hq => hq h2), trivial⟩ ?_
    refine ae_then ?_
    refine aw_false rfl ?_
    refine aw_skip ?_
    refine ae_then ?_
    refine aw_seq ?_
    refine aR [] [0, 3] [] [.ptr false [slS false p.Labels, slLI false p.Weights], I 0] [] [] hB trivial ?_
    refine aw_block ?_
    refine aw_loop (fun gn gσ => ∃ (i : Int), gn = ((p.Weights.length : Int) - i).toNat ∧ (0 ≤ i ∧ i ≤ (p.Weights.length : Int)) ∧ (∀ j : Nat, (j : Int) < i → okRow (at_ p.Weights j) = true) ∧ gσ = mkS [(0, .ptr false [slS false p.Labels, slLI false p.Weights]), (3, I i)] []) (((p.Weights.length : Int) - 0).toNat) ⟨0, rfl, (by omega), (by intro j hj; omega), rfl⟩ (fun gn gσ hI => ?_)
    obtain ⟨i, rfl, hi0, hall0, rfl⟩ := hI
    refine aw_seq ?_
    refine aw_seq ?_
    by_cases h3 : i < (p.Weights.length : Int)
    ·have hi : i.toNat < p.Weights.length := by omega
     refine aw_r [(6, .dec true)] [0, 3, 30] [] [.ptr false [slS false p.Labels, slLI false p.Weights], I i, Bv true] [] [i < (p.Weights.length : Int)] hB ⟨h3, trivial⟩ ?_
     refine ae_then ?_
     refine aw_true rfl ?_
     refine aw_skip ?_
     refine ae_then ?_
     refine aw_seq ?_
     refine aw_block ?_
     refine aw_seq ?_
     refine aw_seq ?_
     by_cases h4 : (((at_ p.Weights i.toNat).length) : Int) = 25
     ·have hrl : (at_ p.Weights i.toNat).length = 25 := by omega
      refine aw_r [(8, .dec false)] [0, 3, 41] [] [.ptr false [slS false p.Labels, slLI false p.Weights], I i, Bv false] [] [(0 : Int) ≤ i ∧ i < (p.Weights.length : Int), ¬ ((((at_ p.Weights i.toNat).length) : Int) ≠ 25)] hB ⟨⟨(by omega), (by omega)⟩, (fun hq => hq h4), trivial⟩ ?_
      refine ae_then ?_
      refine aw_false rfl ?_
      refine aw_skip ?_
      refine ae_then ?_
      refine aR [] [0, 3, 4] [] [.ptr false [slS false p.Labels, slLI false p.Weights], I i, I 0] [] [] hB trivial ?_
      refine aw_block ?_
      refine aw_loop (fun gn gσ => ∃ (k : Int), gn = ((25 : Int) - k).toNat ∧ (0 ≤ k ∧ k ≤ 25) ∧ (∀ j : Nat, (j : Int) < k → okW (at_ (at_ p.Weights i.toNat) j) = true) ∧ gσ = mkS [(0, .ptr false [slS false p.Labels, slLI false p.Weights]), (3, I i), (4, I k)] []) (((25 : Int) - 0).toNat) ⟨0, rfl, (by omega), (by intro j hj; omega), rfl⟩ (fun gn gσ hI => ?_)
      obtain ⟨k, rfl, hk0, hrow0, rfl⟩ := hI
      refine aw_seq ?_
      refine aw_seq ?_
      by_cases h5 : k < 25
      ·have hk : k.toNat < (at_ p.Weights i.toNat).length := by omega
       refine aw_r [(1, .dec true)] [0, 3, 4, 43] [] [.ptr false [slS false p.Labels, slLI false p.Weights], I i, I k, Bv true] [] [k < 25] hB ⟨h5, trivial⟩ ?_
       refine ae_then ?_
       refine aw_true rfl ?_
       refine aw_skip ?_
       refine ae_then ?_
       refine aw_seq ?_
       refine aw_block ?_
       refine aw_seq ?_
       rcases Bool.eq_false_or_eq_true (inB (at_ (at_ p.Weights i.toNat) k.toNat) (-1000000) 1000000) with h6 | h6
       ·have hok2 := h6
        refine aw_r [(10, .call [(true, .any), (true, .any), (true, .any)] true (Bv true))] [0, 3, 4, 57] [] [.ptr false [slS false p.Labels, slLI false p.Weights], I i, I k, Bv false] [] [(0 : Int) ≤ i ∧ i < (p.Weights.length : Int), (0 : Int) ≤ k ∧ k < (((at_ p.Weights i.toNat).length) : Int), Con Try.prog 64 [I (at_ (at_ p.Weights i.toNat) k.toNat), I (-1000000), I 1000000] true (Bv true) ∧ True] hB ⟨⟨(by omega), (by omega)⟩, ⟨(by omega), (by omega)⟩, ⟨(con_bool h6 (l00In_ok (at_ (at_ p.Weights i.toNat) k.toNat) (-1000000) 1000000)), trivial⟩, trivial⟩ ?_
        refine ae_then ?_
        refine aw_false rfl ?_
        refine aw_skip ?_
        refine ae_block 3 ?_
        refine ae_then ?_
        refine aw_r [] [0, 3, 4] [] [.ptr false [slS false p.Labels, slLI false p.Weights], I i, I (k + 1)] [] [inR .i64 (k + 1)] hB ⟨(inR_i64 (by omega) (by omega)), trivial⟩ ?_
        exact ae_again _ (by omega) ⟨(k + 1), rfl, (by omega), (by intro j hj; by_cases ej : j = k.toNat; (subst ej; exact hok2); exact hrow0 j (by omega)), rfl⟩
       have hst : okPerc p = false := by unfold okPerc; rw [okRows_no hi (by unfold okRow; rw [allN_not hk (show okW _ = false from h6)]; simp)]; simp
       refine aw_r [(10, .call [(true, .any), (true, .any), (true, .any)] true (Bv false))] [0, 3, 4, 57] [] [.ptr false [slS false p.Labels, slLI false p.Weights], I i, I k, Bv true] [] [(0 : Int) ≤ i ∧ i < (p.Weights.length : Int), (0 : Int) ≤ k ∧ k < (((at_ p.Weights i.toNat).length) : Int), Con Try.prog 64 [I (at_ (at_ p.Weights i.toNat) k.toNat), I (-1000000), I 1000000] true (Bv false) ∧ True] hB ⟨⟨(by omega), (by omega)⟩, ⟨(by omega), (by omega)⟩, ⟨(con_bool h6 (l00In_ok (at_ (at_ p.Weights i.toNat) k.toNat) (-1000000) 1000000)), trivial⟩, trivial⟩ ?_
       refine ae_then ?_
       refine aw_true rfl ?_
       refine aR [] [2] [] [Bv false] [] [] hB trivial ?_
       refine aw_ret ?_
       refine ae_ret_block (ae_ret_then (ae_ret_then (ae_ret_block (ae_ret_block (ae_ret_then (ae_ret_then (ae_ret_block (ae_ret_then ?_))))))))
       refine ae_ret hB (Bv false) (by kernel_rfl) (.inl (by exact congrArg Bv hst.symm)) rfl (fun _ => trivial)
      have hok : okRow (at_ p.Weights i.toNat) = true := by unfold okRow; rw [decide_eq_true (by omega), allN_at (fun j hj => hrow0 j (by omega))]; rfl
      refine aw_r [(1, .dec false)] [0, 3, 4, 43] [] [.ptr false [slS false p.Labels, slLI false p.Weights], I i, I k, Bv false] [] [¬ (k < 25)] hB ⟨h5, trivial⟩ ?_
      refine ae_then ?_
      refine aw_false rfl ?_
      refine aw_exit ?_
      refine ae_exit_then ?_
      refine ae_exit_then ?_
      refine ae_exit_same ?_
      refine ae_block 1 ?_
      refine ae_then ?_
      refine aw_r [] [0, 3] [] [.ptr false [slS false p.Labels, slLI false p.Weights], I (i + 1)] [] [inR .i64 (i + 1)] hB ⟨(inR_i64 (by omega) (by omega)), trivial⟩ ?_
      exact ae_again _ (by omega) ⟨(i + 1), rfl, (by omega), (by intro j hj; by_cases ej : j = i.toNat; (subst ej; exact hok); exact hall0 j (by omega)), rfl⟩
     have hst : okPerc p = false := by unfold okPerc; rw [okRows_no hi (Bool.eq_false_iff.2 fun q => h4 (by have := (okRow_iff.1 q).1; omega))]; simp
     refine aw_r [(8, .dec true)] [0, 3, 41] [] [.ptr false [slS false p.Labels, slLI false p.Weights], I i, Bv true] [] [(0 : Int) ≤ i ∧ i < (p.Weights.length : Int), (((at_ p.Weights i.toNat).length) : Int) ≠ 25] hB ⟨⟨(by omega), (by omega)⟩, h4, trivial⟩ ?_
     refine ae_then ?_
     refine aw_true rfl ?_
     refine aR [] [2] [] [Bv false] [] [] hB trivial ?_
     refine aw_ret ?_
     refine ae_ret_then (ae_ret_block (ae_ret_then (ae_ret_then (ae_ret_block (ae_ret_then ?_)))))
     refine ae_ret hB (Bv false) (by kernel_rfl) (.inl (by exact congrArg Bv hst.symm)) rfl (fun _ => trivial)
    have hst : okPerc p = true := okPerc_mk hol hll (allN_at fun j hj => hall0 j (by omega))
    refine aw_r [(6, .dec false)] [0, 3, 30] [] [.ptr false [slS false p.Labels, slLI false p.Weights], I i, Bv false] [] [¬ (i < (p.Weights.length : Int))] hB ⟨h3, trivial⟩ ?_
    refine ae_then ?_
    refine aw_false rfl ?_
    refine aw_exit ?_
    refine ae_exit_then ?_
    refine ae_exit_then ?_
    refine ae_exit_same ?_
    refine ae_then ?_
    refine aR [] [2] [] [Bv true] [] [] hB trivial ?_
    refine aw_ret ?_
    refine ae_ret hB (Bv true) (by kernel_rfl) (.inl (by exact congrArg Bv hst.symm)) rfl (fun _ => trivial)
   have hst : okPerc p = false := by unfold okPerc; rw [decide_eq_false h2]; simp
   refine aw_r [(4, .call [(true, .any)] true (Bv true)), (17, .dec true)] [0, 23] [] [.ptr false [slS false p.Labels, slLI false p.Weights], Bv true] [] [Con Try.prog 50 [slS false p.Labels] true (Bv true) ∧ True, (p.Weights.length : Int) ≠ (p.Labels.length : Int)] hB ⟨⟨(con_bool h1 (l12Labels_ok p.Labels ok)), trivial⟩, h2, trivial⟩ ?_
   refine ae_then ?_
   refine aw_true rfl ?_
   refine aR [] [2] [] [Bv false] [] [] hB trivial ?_
   refine aw_ret ?_
   refine ae_ret_then ?_
   refine ae_ret hB (Bv false) (by kernel_rfl) (.inl (by exact congrArg Bv hst.symm)) rfl (fun _ => trivial)
  have hst : okPerc p = false := by unfold okPerc; rw [h1]; rfl
  refine aw_r [(4, .call [(true, .any)] true (Bv false))] [0, 23] [] [.ptr false [slS false p.Labels, slLI false p.Weights], Bv true] [] [Con Try.prog 50 [slS false p.Labels] true (Bv false) ∧ True] hB ⟨⟨(con_bool h1 (l12Labels_ok p.Labels ok)), trivial⟩, trivial⟩ ?_
  refine ae_then ?_
  refine aw_true rfl ?_
  refine aR [] [2] [] [Bv false] [] [] hB trivial ?_
  refine aw_ret ?_
  refine ae_ret_then ?_
  refine ae_ret hB (Bv false) (by kernel_rfl) (.inl (by exact congrArg Bv hst.symm)) rfl (fun _ => trivial)


-- spec.l12Step
theorem l12Step_ok (p : Perceptron) (s : Sample) (hp : okPerc p = true) (hs : s.Label ∈ p.Labels) (hf : okFeats s.Feats 384 = true) : ∃ (ch : Bool) (c : Int) (ls : List ByteArray) (ws : List (List Int)), ((Perceptron.mk ls ws, ch, c) = stepR p s) ∧ CallOK Try.prog 90 [agPerceptron p, .ptr false [Sv s.Label, slFeat false s.Feats]] (lookO []) false (.tup [.agg [.arr 9211, .arr 9212], Bv ch, I c]) (lookO [(9211, .arr 1 ls.length (fS ls)), (9203, .fam ws.length 1 (mLI ws) (gLI ws)), (9212, .oar [9203] 1 ws.length (oLI 9203 ws))]) := by
  have hq := okPerc_iff.1 hp
  have hpn := okP_n hp
  have hfi := fndL_in hs
  have hh : ∃ r : Bool × Int × (List ByteArray) × (List (List Int)), (((Perceptron.mk r.2.2.1 r.2.2.2, r.1, r.2.1) = stepR p s) ∧ (True)) ∧ CallOK Try.prog 90 [agPerceptron p, .ptr false [Sv s.Label, slFeat false s.Feats]] (lookO []) false (.tup [.agg [.arr 9211, .arr 9212], Bv r.1, I r.2.1]) (lookO [(9211, .arr 1 r.2.2.1.length (fS r.2.2.1)), (9203, .fam r.2.2.2.length 1 (mLI r.2.2.2) (gLI r.2.2.2)), (9212, .oar [9203] 1 r.2.2.2.length (oLI 9203 r.2.2.2))]) := by
    refine fn_okX (Φ := fun r : Bool × Int × (List ByteArray) × (List (List Int)) => ((Perceptron.mk r.2.2.1 r.2.2.2, r.1, r.2.1) = stepR p s) ∧ (True)) [] (fun r => [(9211, .arr 1 r.2.2.1.length (fS r.2.2.1)), (9203, .fam r.2.2.2.length 1 (mLI r.2.2.2) (gLI r.2.2.2)), (9212, .oar [9203] 1 r.2.2.2.length (oLI 9203 r.2.2.2))]) (fn := Try.f90) (nt := 68) Try.func90 rfl rfl (args := [agPerceptron p, .ptr false [Sv s.Label, slFeat false s.Feats]]) rfl (allcons (.inl ⟨rfl, by simp [tagged, taggedL, tagLI, tagS]⟩) (allcons (.inl ⟨rfl, by simp [tagged, taggedL, tagFeat]⟩) allnil)) (res := fun r => .tup [.agg [.arr 9211, .arr 9212], Bv r.1, I r.2.1]) ?_
    refine xR [(0, .new 2), (1, .new 4)] [1, 2, 4] [2, 4] [.ptr false [Sv s.Label, slFeat false s.Feats], .ref 2 0, .ref 4 0] [some (bxPerceptron p), some (.box [nilA, nilA])] [] trivial ?_
    refine x_seq ?_
    obtain ⟨v_1, hx1_0, hc1⟩ := l12Input_ok s.Feats hf
    have hinp := inp_ok hf hx1_0
    have hiv := hx1_0
    have hil := hinp.2
    refine x_r [(4, .call [(true, .any)] true (slI true v_1))] [1, 2, 4, 7] [2, 4] [.ptr false [Sv s.Label, slFeat false s.Feats], .ref 2 0, .ref 4 0, slI true v_1] [some (bxPerceptron p), some (.box [nilA, nilA])] [Con Try.prog 41 [slFeat false s.Feats] true (slI true v_1) ∧ True] ⟨⟨hc1, trivial⟩, trivial⟩ ?_
    refine xe_then ?_
    refine xR [(4, .call [(false, .ptr false [slS false p.Labels, slLI false p.Weights]), (true, .any)] true (I (fndL p.Labels s.Label)))] [2, 4, 7, 8] [2, 4] [.ref 2 0, .ref 4 0, slI true v_1, I (fndL p.Labels s.Label)] [some (bxPerceptron p), some (.box [nilA, nilA])] [Con Try.prog 89 [.ptr false [slS false p.Labels, slLI false p.Weights], Sv s.Label] true (I (fndL p.Labels s.Label)) ∧ ((false = true → true = true) ∧ AV.idsL [slS false p.Labels, slLI false p.Weights] = [] ∧ ((false = true → false = true) ∧ 1 = 1 ∧ p.Labels.length = p.Labels.length ∧ ∀ i_, i_ < p.Labels.length → (fS p.Labels) i_ = (fS p.Labels) i_ ∨ (AV.idsL ((fS p.Labels) i_) = [] ∧ leL (fun _ => none) false ((fS p.Labels) i_) ((fS p.Labels) i_))) ∧ ((false = true → false = true) ∧ 1 = 1 ∧ p.Weights.length = p.Weights.length ∧ ∀ i_, i_ < p.Weights.length → (fLI false p.Weights) i_ = (fLI false p.Weights) i_ ∨ (AV.idsL ((fLI false p.Weights) i_) = [] ∧ leL (fun _ => none) false ((fLI false p.Weights) i_) ((fLI false p.Weights) i_))) ∧ ([] : List AV) = []) ∧ True] ⟨⟨(l12Find_ok p s.Label), ⟨(fun h => by cases h), rfl, ⟨⟨(fun h => by cases h), rfl, rfl, fun i _ => .inl rfl⟩, ⟨⟨(fun h => by cases h), rfl, rfl, fun i _ => .inl rfl⟩, rfl⟩⟩⟩, trivial⟩, trivial⟩ ?_
    refine x_seq ?_
    obtain ⟨v_2, hx2_0, hc2⟩ := l12Scores_ok p v_1 hp hinp
    have hsv := hx2_0
    have hsl : v_2.length = p.Weights.length := by rw [hsv, scR_len]
    have hsv2 := hsv
    rw [hiv] at hsv
    have hbi := bstI_in (l := v_2) (by omega)
    refine x_r [(1, .call [(false, .ptr false [slS false p.Labels, slLI false p.Weights]), (false, slI false v_1)] true (slI true v_2)), (2, .call [(false, slI false v_2)] true (I (bstI v_2)))] [2, 4, 7, 8, 9] [2, 4] [.ref 2 0, .ref 4 0, slI true v_1, I (fndL p.Labels s.Label), I (bstI v_2)] [some (bxPerceptron p), some (.box [nilA, nilA])] [Con Try.prog 40 [.ptr false [slS false p.Labels, slLI false p.Weights], slI false v_1] true (slI true v_2) ∧ ((false = true → true = true) ∧ AV.idsL [slS false p.Labels, slLI false p.Weights] = [] ∧ ((false = true → false = true) ∧ 1 = 1 ∧ p.Labels.length = p.Labels.length ∧ ∀ i_, i_ < p.Labels.length → (fS p.Labels) i_ = (fS p.Labels) i_ ∨ (AV.idsL ((fS p.Labels) i_) = [] ∧ leL (fun _ => none) false ((fS p.Labels) i_) ((fS p.Labels) i_))) ∧ ((false = true → false = true) ∧ 1 = 1 ∧ p.Weights.length = p.Weights.length ∧ ∀ i_, i_ < p.Weights.length → (fLI false p.Weights) i_ = (fLI false p.Weights) i_ ∨ (AV.idsL ((fLI false p.Weights) i_) = [] ∧ leL (fun _ => none) false ((fLI false p.Weights) i_) ((fLI false p.Weights) i_))) ∧ ([] : List AV) = []) ∧ ((false = true → true = true) ∧ 1 = 1 ∧ v_1.length = v_1.length ∧ ∀ i_, i_ < v_1.length → (fI v_1) i_ = (fI v_1) i_ ∨ (AV.idsL ((fI v_1) i_) = [] ∧ leL (fun _ => none) false ((fI v_1) i_) ((fI v_1) i_))) ∧ True, Con Try.prog 46 [slI false v_2] true (I (bstI v_2)) ∧ ((false = true → true = true) ∧ 1 = 1 ∧ v_2.length = v_2.length ∧ ∀ i_, i_ < v_2.length → (fI v_2) i_ = (fI v_2) i_ ∨ (AV.idsL ((fI v_2) i_) = [] ∧ leL (fun _ => none) false ((fI v_2) i_) ((fI v_2) i_))) ∧ True] ⟨⟨hc2, ⟨(fun h => by cases h), rfl, ⟨⟨(fun h => by cases h), rfl, rfl, fun i _ => .inl rfl⟩, ⟨⟨(fun h => by cases h), rfl, rfl, fun i _ => .inl rfl⟩, rfl⟩⟩⟩, ⟨(fun h => by cases h), rfl, rfl, fun i _ => .inl rfl⟩, trivial⟩, ⟨(l12Best_ok v_2 (by omega)), ⟨(fun h => by cases h), rfl, rfl, fun i _ => .inl rfl⟩, trivial⟩, trivial⟩ ?_
    refine xe_then ?_
    refine x_seq ?_
    refine x_weak [] (T := [(2, .ptr true [slS false p.Labels, slLI false p.Weights]), (4, .ref 4 0), (7, slI true v_1), (8, I (fndL p.Labels s.Label)), (9, I (bstI v_2))]) (O := [(4, .box [nilA, nilA])]) rfl (⟨.inr ⟨(fun _ => rfl), rfl, ⟨⟨(fun h => by cases h), rfl, rfl, fun i _ => .inl rfl⟩, ⟨⟨(fun h => by cases h), rfl, rfl, fun i _ => .inl rfl⟩, rfl⟩⟩⟩, .inl rfl, .inl rfl, .inl rfl, .inl rfl, trivial⟩) (⟨.inl rfl, trivial⟩) ?_
    obtain ⟨ls_3, ws_3, hx3_0, hx3_1, hc3⟩ := l12Own_ok p (okP_bd hp)
    have hls := hx3_0
    have how := hx3_1
    refine x_r [(0, .lend [] [(9201, .arr 1 ls_3.length (fS ls_3)), (9202, .oar [9203] 1 ws_3.length (oLI 9203 ws_3)), (9203, .fam ws_3.length 1 (mLI ws_3) (gLI ws_3))] [(false, .ptr false [slS false p.Labels, slLI false p.Weights])] false (.agg [.arr 9201, .arr 9202])), (1, .new 10)] [4, 7, 8, 9, 10] [4, 10, 9201, 9202, 9203] [.ref 4 0, slI true v_1, I (fndL p.Labels s.Label), I (bstI v_2), .ref 10 0] [some (.box [nilA, nilA]), some (.box [.arr 9201, .arr 9202]), some (.arr 1 ls_3.length (fS ls_3)), some (.oar [9203] 1 ws_3.length (oLI 9203 ws_3)), some (.fam ws_3.length 1 (mLI ws_3) (gLI ws_3))] [CallOK Try.prog 52 [.ptr false [slS false p.Labels, slLI false p.Weights]] (lookO []) false (.agg [.arr 9201, .arr 9202]) (lookO [(9201, .arr 1 ls_3.length (fS ls_3)), (9202, .oar [9203] 1 ws_3.length (oLI 9203 ws_3)), (9203, .fam ws_3.length 1 (mLI ws_3) (gLI ws_3))]) ∧ ((false = true → true = true) ∧ AV.idsL [slS false p.Labels, slLI false p.Weights] = [] ∧ ((false = true → false = true) ∧ 1 = 1 ∧ p.Labels.length = p.Labels.length ∧ ∀ i_, i_ < p.Labels.length → (fS p.Labels) i_ = (fS p.Labels) i_ ∨ (AV.idsL ((fS p.Labels) i_) = [] ∧ leL (fun _ => none) false ((fS p.Labels) i_) ((fS p.Labels) i_))) ∧ ((false = true → false = true) ∧ 1 = 1 ∧ p.Weights.length = p.Weights.length ∧ ∀ i_, i_ < p.Weights.length → (fLI false p.Weights) i_ = (fLI false p.Weights) i_ ∨ (AV.idsL ((fLI false p.Weights) i_) = [] ∧ leL (fun _ => none) false ((fLI false p.Weights) i_) ((fLI false p.Weights) i_))) ∧ ([] : List AV) = []) ∧ True] ⟨⟨hc3, ⟨(fun h => by cases h), rfl, ⟨⟨(fun h => by cases h), rfl, rfl, fun i _ => .inl rfl⟩, ⟨⟨(fun h => by cases h), rfl, rfl, fun i _ => .inl rfl⟩, rfl⟩⟩⟩, trivial⟩, trivial⟩ ?_
    refine xe_then ?_
    refine x_seq ?_
    refine x_seq ?_
    by_cases h1 : (bstI v_2) = (fndL p.Labels s.Label)
    ·have heq : bstI (scR p.Weights (inpR s.Feats)) = fndL p.Labels s.Label := by rw [← hsv]; exact h1
     refine x_r [(2, .dec true)] [4, 7, 8, 9, 10, 28] [4, 10, 9201, 9202, 9203] [.ref 4 0, slI true v_1, I (fndL p.Labels s.Label), I (bstI v_2), .ref 10 0, Bv true] [some (.box [nilA, nilA]), some (.box [.arr 9201, .arr 9202]), some (.arr 1 ls_3.length (fS ls_3)), some (.oar [9203] 1 ws_3.length (oLI 9203 ws_3)), some (.fam ws_3.length 1 (mLI ws_3) (gLI ws_3))] [(bstI v_2) = (fndL p.Labels s.Label)] ⟨h1, trivial⟩ ?_
     refine xe_then ?_
     refine x_true rfl ?_
     refine xR [] [4, 5, 6] [4, 9201, 9202, 9203] [.ref 4 0, Bv false, I 0] [some (.box [.arr 9201, .arr 9202]), some (.arr 1 ls_3.length (fS ls_3)), some (.oar [9203] 1 ws_3.length (oLI 9203 ws_3)), some (.fam ws_3.length 1 (mLI ws_3) (gLI ws_3))] [] trivial ?_
     refine x_ret ?_
     refine xe_ret_then ?_
     refine xe_weak [(9211, 9201), (9212, 9202)] (T := [(4, .ref 4 0), (5, Bv false), (6, I 0)]) (O := [(4, .box [.arr 9211, .arr 9212]), (9203, .fam ws_3.length 1 (mLI ws_3) (gLI ws_3)), (9211, .arr 1 ls_3.length (fS ls_3)), (9212, .oar [9203] 1 ws_3.length (oLI 9203 ws_3))]) rfl (⟨.inl rfl, .inl rfl, .inl rfl, trivial⟩) (⟨.inl rfl, .inl rfl, .inl rfl, .inl rfl, trivial⟩) ?_
     refine xe_end (false, 0, ls_3, ws_3) (show ((Perceptron.mk ls_3 ws_3, false, 0) = stepR p s) ∧ (True) from ⟨(by first | (rw [step_a heq, hls, how]; done) | (rw [step_b heq hok3, hls, hws2]; done) | exact (step_c heq (by rw [hok3]; exact Bool.false_ne_true)).symm), trivial⟩) (⟨.inl rfl, .inl rfl, .inl rfl, trivial⟩) (.tup [.agg [.arr 9211, .arr 9212], Bv false, I 0]) (by kernel_rfl) (.inl rfl) (fun h => by cases h) (fun h => by cases h)
    have heq : ¬ (bstI (scR p.Weights (inpR s.Feats)) = fndL p.Labels s.Label) := by rw [← hsv]; exact h1
    have hne : (fndL p.Labels s.Label).toNat ≠ (bstI v_2).toNat := by omega
    refine x_r [(2, .dec false)] [4, 7, 8, 9, 10, 28] [4, 10, 9201, 9202, 9203] [.ref 4 0, slI true v_1, I (fndL p.Labels s.Label), I (bstI v_2), .ref 10 0, Bv false] [some (.box [nilA, nilA]), some (.box [.arr 9201, .arr 9202]), some (.arr 1 ls_3.length (fS ls_3)), some (.oar [9203] 1 ws_3.length (oLI 9203 ws_3)), some (.fam ws_3.length 1 (mLI ws_3) (gLI ws_3))] [¬ ((bstI v_2) = (fndL p.Labels s.Label))] ⟨h1, trivial⟩ ?_
    refine xe_then ?_
    refine x_false rfl ?_
    refine x_skip ?_
    refine xe_then ?_
    refine x_seq ?_
    refine xR [] [4, 7, 8, 9, 10, 11] [4, 10, 9201, 9202, 9203] [.ref 4 0, slI true v_1, I (fndL p.Labels s.Label), I (bstI v_2), .ref 10 0, I 0] [some (.box [nilA, nilA]), some (.box [.arr 9201, .arr 9202]), some (.arr 1 ls_3.length (fS ls_3)), some (.oar [9203] 1 ws_3.length (oLI 9203 ws_3)), some (.fam ws_3.length 1 (mLI ws_3) (gLI ws_3))] [] trivial ?_
    refine x_block ?_
    refine x_loop (X := Int × (List (List Int))) (fun x => mkS [(4, .ref 4 0), (7, slI true v_1), (8, I (fndL p.Labels s.Label)), (9, I (bstI v_2)), (10, .ref 10 0), (11, I x.1)] [(4, .box [nilA, nilA]), (10, .box [.arr 9201, .arr 9202]), (9201, .arr 1 ls_3.length (fS ls_3)), (9202, .oar [9203] 1 x.2.length (oLI 9203 x.2)), (9203, .fam x.2.length 1 (mLI x.2) (gLI x.2))]) (fun x => (0 ≤ x.1 ∧ x.1 ≤ 25) ∧ (x.2 = updW p.Weights v_1 (fndL p.Labels s.Label).toNat (bstI v_2).toNat x.1.toNat) ∧ True) (fun x => ((25 : Int) - x.1).toNat) (0, ws_3) rfl (show (0 ≤ (0 : Int) ∧ (0 : Int) ≤ 25) ∧ (ws_3 = updW p.Weights v_1 (fndL p.Labels s.Label).toNat (bstI v_2).toNat (0 : Int).toNat) ∧ True from ⟨(by omega), (by exact how), trivial⟩) (fun x hI => ?_)
    obtain ⟨k, ws⟩ := x
    obtain ⟨hk0, hws, _⟩ : (0 ≤ k ∧ k ≤ 25) ∧ (ws = updW p.Weights v_1 (fndL p.Labels s.Label).toNat (bstI v_2).toNat k.toNat) ∧ True := hI
    show XW _ _ _ _ (mkS [(4, .ref 4 0), (7, slI true v_1), (8, I (fndL p.Labels s.Label)), (9, I (bstI v_2)), (10, .ref 10 0), (11, I k)] [(4, .box [nilA, nilA]), (10, .box [.arr 9201, .arr 9202]), (9201, .arr 1 ls_3.length (fS ls_3)), (9202, .oar [9203] 1 ws.length (oLI 9203 ws)), (9203, .fam ws.length 1 (mLI ws) (gLI ws))]) _ _
    refine x_seq ?_
    refine x_seq ?_
    by_cases h2 : k < (v_1.length : Int)
    ·have hk : k.toNat < 25 := by omega
     have hwl : ws.length = p.Weights.length := by rw [hws, updW_len]
     have hrW : (at_ ws (fndL p.Labels s.Label).toNat).length = 25 := by rw [hws, updW_row]; exact (okRows_at hq.2.2 (by omega)).1
     have hrG : (at_ ws (bstI v_2).toNat).length = 25 := by rw [hws, updW_row]; exact (okRows_at hq.2.2 (by omega)).1
     have hbW : -1000512 ≤ at_ (at_ ws (fndL p.Labels s.Label).toNat) k.toNat ∧ at_ (at_ ws (fndL p.Labels s.Label).toNat) k.toNat ≤ 1000512 := by rw [hws]; exact upd_bd hp hinp.1 (by omega) (by omega) hne (by omega) (by omega) hk
     have hbG : -1000512 ≤ at_ (at_ ws (bstI v_2).toNat) k.toNat ∧ at_ (at_ ws (bstI v_2).toNat) k.toNat ≤ 1000512 := by rw [hws]; exact upd_bd hp hinp.1 (by omega) (by omega) hne (by omega) (by omega) hk
     have hxk := hinp.1 k.toNat
     refine x_r [(3, .dec true)] [4, 7, 8, 9, 10, 11, 33] [4, 10, 9201, 9202, 9203] [.ref 4 0, slI true v_1, I (fndL p.Labels s.Label), I (bstI v_2), .ref 10 0, I k, Bv true] [some (.box [nilA, nilA]), some (.box [.arr 9201, .arr 9202]), some (.arr 1 ls_3.length (fS ls_3)), some (.oar [9203] 1 ws.length (oLI 9203 ws)), some (.fam ws.length 1 (mLI ws) (gLI ws))] [k < (v_1.length : Int)] ⟨h2, trivial⟩ ?_
     refine xe_then ?_
     refine x_true rfl ?_
     refine x_skip ?_
     refine xe_then ?_
     refine x_seq ?_
     refine x_block ?_
     refine xR [] [4, 7, 8, 9, 10, 11] [4, 10, 9201, 9202, 9203] [.ref 4 0, slI true v_1, I (fndL p.Labels s.Label), I (bstI v_2), .ref 10 0, I k] [some (.box [nilA, nilA]), some (.box [.arr 9201, .arr 9202]), some (.arr 1 ls_3.length (fS ls_3)), some (.oar [9203] 1 ws.length (oLI 9203 ws)), some (.fam ws.length 1 (mLI ws) (fun q => bif Nat.beq q ((fndL p.Labels s.Label).toNat) then (fun q => bif Nat.beq q k.toNat then [I ((at_ (at_ ws ((fndL p.Labels s.Label).toNat)) k.toNat) + (at_ v_1 k.toNat))] else (gLI ws) ((fndL p.Labels s.Label).toNat) q) else (gLI ws) q))] [(0 : Int) ≤ (fndL p.Labels s.Label) ∧ (fndL p.Labels s.Label) < (ws.length : Int), (fndL p.Labels s.Label).toNat < ws.length, ((fndL p.Labels s.Label).toNat) < ws.length ∧ (0 : Int) ≤ k ∧ k < (((at_ ws ((fndL p.Labels s.Label).toNat)).length) : Int), ((fndL p.Labels s.Label).toNat) < ws.length ∧ k.toNat < (at_ ws ((fndL p.Labels s.Label).toNat)).length, (0 : Int) ≤ k ∧ k < (v_1.length : Int), inR .i64 ((at_ (at_ ws ((fndL p.Labels s.Label).toNat)) k.toNat) + (at_ v_1 k.toNat)), ((fndL p.Labels s.Label).toNat) < ws.length ∧ (0 : Int) ≤ k ∧ k < (((at_ ws ((fndL p.Labels s.Label).toNat)).length) : Int), ((fndL p.Labels s.Label).toNat) < ws.length ∧ k.toNat < (at_ ws ((fndL p.Labels s.Label).toNat)).length] ⟨⟨(by omega), (by omega)⟩, (by omega), ⟨(by omega), (by omega), (by omega)⟩, ⟨(by omega), (by omega)⟩, ⟨(by omega), (by omega)⟩, (inR_i64 (by omega) (by omega)), ⟨(by omega), (by omega), (by omega)⟩, ⟨(by omega), (by omega)⟩, trivial⟩ ?_
     refine x_weak [] (T := [(4, .ref 4 0), (7, slI true v_1), (8, I (fndL p.Labels s.Label)), (9, I (bstI v_2)), (10, .ref 10 0), (11, I k)]) (O := [(4, .box [nilA, nilA]), (10, .box [.arr 9201, .arr 9202]), (9201, .arr 1 ls_3.length (fS ls_3)), (9202, .oar [9203] 1 ((ws.set ((fndL p.Labels s.Label).toNat) ((at_ ws ((fndL p.Labels s.Label).toNat)).set k.toNat ((at_ (at_ ws ((fndL p.Labels s.Label).toNat)) k.toNat) + (at_ v_1 k.toNat)))).length) (oLI 9203 (ws.set ((fndL p.Labels s.Label).toNat) ((at_ ws ((fndL p.Labels s.Label).toNat)).set k.toNat ((at_ (at_ ws ((fndL p.Labels s.Label).toNat)) k.toNat) + (at_ v_1 k.toNat)))))), (9203, .fam (ws.set ((fndL p.Labels s.Label).toNat) ((at_ ws ((fndL p.Labels s.Label).toNat)).set k.toNat ((at_ (at_ ws ((fndL p.Labels s.Label).toNat)) k.toNat) + (at_ v_1 k.toNat)))).length 1 (mLI (ws.set ((fndL p.Labels s.Label).toNat) ((at_ ws ((fndL p.Labels s.Label).toNat)).set k.toNat ((at_ (at_ ws ((fndL p.Labels s.Label).toNat)) k.toNat) + (at_ v_1 k.toNat))))) (gLI (ws.set ((fndL p.Labels s.Label).toNat) ((at_ ws ((fndL p.Labels s.Label).toNat)).set k.toNat ((at_ (at_ ws ((fndL p.Labels s.Label).toNat)) k.toNat) + (at_ v_1 k.toNat))))))]) rfl (⟨.inl rfl, .inl rfl, .inl rfl, .inl rfl, .inl rfl, .inl rfl, trivial⟩) (⟨.inl rfl, .inl rfl, .inl rfl, .inr ⟨rfl, rfl, (by first | rfl | (simp; done) | omega), fun i_ hi_ => .inl (osetLI 9203 ((fndL p.Labels s.Label).toNat) ws ((at_ ws ((fndL p.Labels s.Label).toNat)).set k.toNat ((at_ (at_ ws ((fndL p.Labels s.Label).toNat)) k.toNat) + (at_ v_1 k.toNat))) i_)⟩, .inr (fsetLI (P := (fndL p.Labels s.Label).toNat) (k := k.toNat) ((by omega)) ((by omega)) (by simp only [Nat.beq_refl, cond_true]; try rfl) (by intro i hi; simp only [Nat.beq_refl, cond_true, beq_ne hi, cond_false]; try rfl) (by intro p hp; simp only [beq_ne hp, cond_false])), trivial⟩) ?_
     refine x_r [] [4, 7, 8, 9, 10, 11] [4, 10, 9201, 9202, 9203] [.ref 4 0, slI true v_1, I (fndL p.Labels s.Label), I (bstI v_2), .ref 10 0, I k] [some (.box [nilA, nilA]), some (.box [.arr 9201, .arr 9202]), some (.arr 1 ls_3.length (fS ls_3)), some (.oar [9203] 1 ((ws.set ((fndL p.Labels s.Label).toNat) ((at_ ws ((fndL p.Labels s.Label).toNat)).set k.toNat ((at_ (at_ ws ((fndL p.Labels s.Label).toNat)) k.toNat) + (at_ v_1 k.toNat)))).length) (oLI 9203 (ws.set ((fndL p.Labels s.Label).toNat) ((at_ ws ((fndL p.Labels s.Label).toNat)).set k.toNat ((at_ (at_ ws ((fndL p.Labels s.Label).toNat)) k.toNat) + (at_ v_1 k.toNat)))))), some (.fam (ws.set ((fndL p.Labels s.Label).toNat) ((at_ ws ((fndL p.Labels s.Label).toNat)).set k.toNat ((at_ (at_ ws ((fndL p.Labels s.Label).toNat)) k.toNat) + (at_ v_1 k.toNat)))).length 1 (mLI (ws.set ((fndL p.Labels s.Label).toNat) ((at_ ws ((fndL p.Labels s.Label).toNat)).set k.toNat ((at_ (at_ ws ((fndL p.Labels s.Label).toNat)) k.toNat) + (at_ v_1 k.toNat))))) (fun q => bif Nat.beq q ((bstI v_2).toNat) then (fun q => bif Nat.beq q k.toNat then [I ((at_ (at_ (ws.set ((fndL p.Labels s.Label).toNat) ((at_ ws ((fndL p.Labels s.Label).toNat)).set k.toNat ((at_ (at_ ws ((fndL p.Labels s.Label).toNat)) k.toNat) + (at_ v_1 k.toNat)))) ((bstI v_2).toNat)) k.toNat) - (at_ v_1 k.toNat))] else (gLI (ws.set ((fndL p.Labels s.Label).toNat) ((at_ ws ((fndL p.Labels s.Label).toNat)).set k.toNat ((at_ (at_ ws ((fndL p.Labels s.Label).toNat)) k.toNat) + (at_ v_1 k.toNat))))) ((bstI v_2).toNat) q) else (gLI (ws.set ((fndL p.Labels s.Label).toNat) ((at_ ws ((fndL p.Labels s.Label).toNat)).set k.toNat ((at_ (at_ ws ((fndL p.Labels s.Label).toNat)) k.toNat) + (at_ v_1 k.toNat))))) q))] [(0 : Int) ≤ (bstI v_2) ∧ (bstI v_2) < (((ws.set ((fndL p.Labels s.Label).toNat) ((at_ ws ((fndL p.Labels s.Label).toNat)).set k.toNat ((at_ (at_ ws ((fndL p.Labels s.Label).toNat)) k.toNat) + (at_ v_1 k.toNat)))).length : Nat) : Int), (bstI v_2).toNat < (ws.set ((fndL p.Labels s.Label).toNat) ((at_ ws ((fndL p.Labels s.Label).toNat)).set k.toNat ((at_ (at_ ws ((fndL p.Labels s.Label).toNat)) k.toNat) + (at_ v_1 k.toNat)))).length, ((bstI v_2).toNat) < (ws.set ((fndL p.Labels s.Label).toNat) ((at_ ws ((fndL p.Labels s.Label).toNat)).set k.toNat ((at_ (at_ ws ((fndL p.Labels s.Label).toNat)) k.toNat) + (at_ v_1 k.toNat)))).length ∧ (0 : Int) ≤ k ∧ k < (((at_ (ws.set ((fndL p.Labels s.Label).toNat) ((at_ ws ((fndL p.Labels s.Label).toNat)).set k.toNat ((at_ (at_ ws ((fndL p.Labels s.Label).toNat)) k.toNat) + (at_ v_1 k.toNat)))) ((bstI v_2).toNat)).length) : Int), ((bstI v_2).toNat) < (ws.set ((fndL p.Labels s.Label).toNat) ((at_ ws ((fndL p.Labels s.Label).toNat)).set k.toNat ((at_ (at_ ws ((fndL p.Labels s.Label).toNat)) k.toNat) + (at_ v_1 k.toNat)))).length ∧ k.toNat < (at_ (ws.set ((fndL p.Labels s.Label).toNat) ((at_ ws ((fndL p.Labels s.Label).toNat)).set k.toNat ((at_ (at_ ws ((fndL p.Labels s.Label).toNat)) k.toNat) + (at_ v_1 k.toNat)))) ((bstI v_2).toNat)).length, (0 : Int) ≤ k ∧ k < (v_1.length : Int), inR .i64 ((at_ (at_ (ws.set ((fndL p.Labels s.Label).toNat) ((at_ ws ((fndL p.Labels s.Label).toNat)).set k.toNat ((at_ (at_ ws ((fndL p.Labels s.Label).toNat)) k.toNat) + (at_ v_1 k.toNat)))) ((bstI v_2).toNat)) k.toNat) - (at_ v_1 k.toNat)), ((bstI v_2).toNat) < (ws.set ((fndL p.Labels s.Label).toNat) ((at_ ws ((fndL p.Labels s.Label).toNat)).set k.toNat ((at_ (at_ ws ((fndL p.Labels s.Label).toNat)) k.toNat) + (at_ v_1 k.toNat)))).length ∧ (0 : Int) ≤ k ∧ k < (((at_ (ws.set ((fndL p.Labels s.Label).toNat) ((at_ ws ((fndL p.Labels s.Label).toNat)).set k.toNat ((at_ (at_ ws ((fndL p.Labels s.Label).toNat)) k.toNat) + (at_ v_1 k.toNat)))) ((bstI v_2).toNat)).length) : Int), ((bstI v_2).toNat) < (ws.set ((fndL p.Labels s.Label).toNat) ((at_ ws ((fndL p.Labels s.Label).toNat)).set k.toNat ((at_ (at_ ws ((fndL p.Labels s.Label).toNat)) k.toNat) + (at_ v_1 k.toNat)))).length ∧ k.toNat < (at_ (ws.set ((fndL p.Labels s.Label).toNat) ((at_ ws ((fndL p.Labels s.Label).toNat)).set k.toNat ((at_ (at_ ws ((fndL p.Labels s.Label).toNat)) k.toNat) + (at_ v_1 k.toNat)))) ((bstI v_2).toNat)).length] ⟨⟨(by first | omega | (rw [set_row_len (by rw [List.length_set])]; omega) | (simp only [List.length_set]; omega) | ((try simp only [List.length_set]); rw [set_row_len (by rw [List.length_set])]; omega)), (by first | omega | (rw [set_row_len (by rw [List.length_set])]; omega) | (simp only [List.length_set]; omega) | ((try simp only [List.length_set]); rw [set_row_len (by rw [List.length_set])]; omega))⟩, (by first | omega | (rw [set_row_len (by rw [List.length_set])]; omega) | (simp only [List.length_set]; omega) | ((try simp only [List.length_set]); rw [set_row_len (by rw [List.length_set])]; omega)), ⟨(by first | omega | (rw [set_row_len (by rw [List.length_set])]; omega) | (simp only [List.length_set]; omega) | ((try simp only [List.length_set]); rw [set_row_len (by rw [List.length_set])]; omega)), (by omega), (by first | omega | (rw [set_row_len (by rw [List.length_set])]; omega) | (simp only [List.length_set]; omega) | ((try simp only [List.length_set]); rw [set_row_len (by rw [List.length_set])]; omega))⟩, ⟨(by first | omega | (rw [set_row_len (by rw [List.length_set])]; omega) | (simp only [List.length_set]; omega) | ((try simp only [List.length_set]); rw [set_row_len (by rw [List.length_set])]; omega)), (by first | omega | (rw [set_row_len (by rw [List.length_set])]; omega) | (simp only [List.length_set]; omega) | ((try simp only [List.length_set]); rw [set_row_len (by rw [List.length_set])]; omega))⟩, ⟨(by omega), (by omega)⟩, (by simp only [at_set]; (repeat split) <;> exact inR_i64 (by omega) (by omega)), ⟨(by first | omega | (rw [set_row_len (by rw [List.length_set])]; omega) | (simp only [List.length_set]; omega) | ((try simp only [List.length_set]); rw [set_row_len (by rw [List.length_set])]; omega)), (by omega), (by first | omega | (rw [set_row_len (by rw [List.length_set])]; omega) | (simp only [List.length_set]; omega) | ((try simp only [List.length_set]); rw [set_row_len (by rw [List.length_set])]; omega))⟩, ⟨(by first | omega | (rw [set_row_len (by rw [List.length_set])]; omega) | (simp only [List.length_set]; omega) | ((try simp only [List.length_set]); rw [set_row_len (by rw [List.length_set])]; omega)), (by first | omega | (rw [set_row_len (by rw [List.length_set])]; omega) | (simp only [List.length_set]; omega) | ((try simp only [List.length_set]); rw [set_row_len (by rw [List.length_set])]; omega))⟩, trivial⟩ ?_
     refine xe_block 1 ?_
     refine xe_then ?_
     refine x_weak [] (T := [(4, .ref 4 0), (7, slI true v_1), (8, I (fndL p.Labels s.Label)), (9, I (bstI v_2)), (10, .ref 10 0), (11, I k)]) (O := [(4, .box [nilA, nilA]), (10, .box [.arr 9201, .arr 9202]), (9201, .arr 1 ls_3.length (fS ls_3)), (9202, .oar [9203] 1 (((ws.set ((fndL p.Labels s.Label).toNat) ((at_ ws ((fndL p.Labels s.Label).toNat)).set k.toNat ((at_ (at_ ws ((fndL p.Labels s.Label).toNat)) k.toNat) + (at_ v_1 k.toNat)))).set ((bstI v_2).toNat) ((at_ (ws.set ((fndL p.Labels s.Label).toNat) ((at_ ws ((fndL p.Labels s.Label).toNat)).set k.toNat ((at_ (at_ ws ((fndL p.Labels s.Label).toNat)) k.toNat) + (at_ v_1 k.toNat)))) ((bstI v_2).toNat)).set k.toNat ((at_ (at_ (ws.set ((fndL p.Labels s.Label).toNat) ((at_ ws ((fndL p.Labels s.Label).toNat)).set k.toNat ((at_ (at_ ws ((fndL p.Labels s.Label).toNat)) k.toNat) + (at_ v_1 k.toNat)))) ((bstI v_2).toNat)) k.toNat) - (at_ v_1 k.toNat)))).length) (oLI 9203 ((ws.set ((fndL p.Labels s.Label).toNat) ((at_ ws ((fndL p.Labels s.Label).toNat)).set k.toNat ((at_ (at_ ws ((fndL p.Labels s.Label).toNat)) k.toNat) + (at_ v_1 k.toNat)))).set ((bstI v_2).toNat) ((at_ (ws.set ((fndL p.Labels s.Label).toNat) ((at_ ws ((fndL p.Labels s.Label).toNat)).set k.toNat ((at_ (at_ ws ((fndL p.Labels s.Label).toNat)) k.toNat) + (at_ v_1 k.toNat)))) ((bstI v_2).toNat)).set k.toNat ((at_ (at_ (ws.set ((fndL p.Labels s.Label).toNat) ((at_ ws ((fndL p.Labels s.Label).toNat)).set k.toNat ((at_ (at_ ws ((fndL p.Labels s.Label).toNat)) k.toNat) + (at_ v_1 k.toNat)))) ((bstI v_2).toNat)) k.toNat) - (at_ v_1 k.toNat)))))), (9203, .fam ((ws.set ((fndL p.Labels s.Label).toNat) ((at_ ws ((fndL p.Labels s.Label).toNat)).set k.toNat ((at_ (at_ ws ((fndL p.Labels s.Label).toNat)) k.toNat) + (at_ v_1 k.toNat)))).set ((bstI v_2).toNat) ((at_ (ws.set ((fndL p.Labels s.Label).toNat) ((at_ ws ((fndL p.Labels s.Label).toNat)).set k.toNat ((at_ (at_ ws ((fndL p.Labels s.Label).toNat)) k.toNat) + (at_ v_1 k.toNat)))) ((bstI v_2).toNat)).set k.toNat ((at_ (at_ (ws.set ((fndL p.Labels s.Label).toNat) ((at_ ws ((fndL p.Labels s.Label).toNat)).set k.toNat ((at_ (at_ ws ((fndL p.Labels s.Label).toNat)) k.toNat) + (at_ v_1 k.toNat)))) ((bstI v_2).toNat)) k.toNat) - (at_ v_1 k.toNat)))).length 1 (mLI ((ws.set ((fndL p.Labels s.Label).toNat) ((at_ ws ((fndL p.Labels s.Label).toNat)).set k.toNat ((at_ (at_ ws ((fndL p.Labels s.Label).toNat)) k.toNat) + (at_ v_1 k.toNat)))).set ((bstI v_2).toNat) ((at_ (ws.set ((fndL p.Labels s.Label).toNat) ((at_ ws ((fndL p.Labels s.Label).toNat)).set k.toNat ((at_ (at_ ws ((fndL p.Labels s.Label).toNat)) k.toNat) + (at_ v_1 k.toNat)))) ((bstI v_2).toNat)).set k.toNat ((at_ (at_ (ws.set ((fndL p.Labels s.Label).toNat) ((at_ ws ((fndL p.Labels s.Label).toNat)).set k.toNat ((at_ (at_ ws ((fndL p.Labels s.Label).toNat)) k.toNat) + (at_ v_1 k.toNat)))) ((bstI v_2).toNat)) k.toNat) - (at_ v_1 k.toNat))))) (gLI ((ws.set ((fndL p.Labels s.Label).toNat) ((at_ ws ((fndL p.Labels s.Label).toNat)).set k.toNat ((at_ (at_ ws ((fndL p.Labels s.Label).toNat)) k.toNat) + (at_ v_1 k.toNat)))).set ((bstI v_2).toNat) ((at_ (ws.set ((fndL p.Labels s.Label).toNat) ((at_ ws ((fndL p.Labels s.Label).toNat)).set k.toNat ((at_ (at_ ws ((fndL p.Labels s.Label).toNat)) k.toNat) + (at_ v_1 k.toNat)))) ((bstI v_2).toNat)).set k.toNat ((at_ (at_ (ws.set ((fndL p.Labels s.Label).toNat) ((at_ ws ((fndL p.Labels s.Label).toNat)).set k.toNat ((at_ (at_ ws ((fndL p.Labels s.Label).toNat)) k.toNat) + (at_ v_1 k.toNat)))) ((bstI v_2).toNat)) k.toNat) - (at_ v_1 k.toNat))))))]) rfl (⟨.inl rfl, .inl rfl, .inl rfl, .inl rfl, .inl rfl, .inl rfl, trivial⟩) (⟨.inl rfl, .inl rfl, .inl rfl, .inr ⟨rfl, rfl, (by first | rfl | (simp; done) | omega), fun i_ hi_ => .inl (osetLI 9203 ((bstI v_2).toNat) (ws.set ((fndL p.Labels s.Label).toNat) ((at_ ws ((fndL p.Labels s.Label).toNat)).set k.toNat ((at_ (at_ ws ((fndL p.Labels s.Label).toNat)) k.toNat) + (at_ v_1 k.toNat)))) ((at_ (ws.set ((fndL p.Labels s.Label).toNat) ((at_ ws ((fndL p.Labels s.Label).toNat)).set k.toNat ((at_ (at_ ws ((fndL p.Labels s.Label).toNat)) k.toNat) + (at_ v_1 k.toNat)))) ((bstI v_2).toNat)).set k.toNat ((at_ (at_ (ws.set ((fndL p.Labels s.Label).toNat) ((at_ ws ((fndL p.Labels s.Label).toNat)).set k.toNat ((at_ (at_ ws ((fndL p.Labels s.Label).toNat)) k.toNat) + (at_ v_1 k.toNat)))) ((bstI v_2).toNat)) k.toNat) - (at_ v_1 k.toNat))) i_)⟩, .inr (fsetLI (P := (bstI v_2).toNat) (k := k.toNat) ((by first | omega | (rw [set_row_len (by rw [List.length_set])]; omega) | (simp only [List.length_set]; omega) | ((try simp only [List.length_set]); rw [set_row_len (by rw [List.length_set])]; omega))) ((by first | omega | (rw [set_row_len (by rw [List.length_set])]; omega) | (simp only [List.length_set]; omega) | ((try simp only [List.length_set]); rw [set_row_len (by rw [List.length_set])]; omega))) (by simp only [Nat.beq_refl, cond_true]; try rfl) (by intro i hi; simp only [Nat.beq_refl, cond_true, beq_ne hi, cond_false]; try rfl) (by intro p hp; simp only [beq_ne hp, cond_false])), trivial⟩) ?_
     refine x_r [] [4, 7, 8, 9, 10, 11] [4, 10, 9201, 9202, 9203] [.ref 4 0, slI true v_1, I (fndL p.Labels s.Label), I (bstI v_2), .ref 10 0, I (k + 1)] [some (.box [nilA, nilA]), some (.box [.arr 9201, .arr 9202]), some (.arr 1 ls_3.length (fS ls_3)), some (.oar [9203] 1 (((ws.set ((fndL p.Labels s.Label).toNat) ((at_ ws ((fndL p.Labels s.Label).toNat)).set k.toNat ((at_ (at_ ws ((fndL p.Labels s.Label).toNat)) k.toNat) + (at_ v_1 k.toNat)))).set ((bstI v_2).toNat) ((at_ (ws.set ((fndL p.Labels s.Label).toNat) ((at_ ws ((fndL p.Labels s.Label).toNat)).set k.toNat ((at_ (at_ ws ((fndL p.Labels s.Label).toNat)) k.toNat) + (at_ v_1 k.toNat)))) ((bstI v_2).toNat)).set k.toNat ((at_ (at_ (ws.set ((fndL p.Labels s.Label).toNat) ((at_ ws ((fndL p.Labels s.Label).toNat)).set k.toNat ((at_ (at_ ws ((fndL p.Labels s.Label).toNat)) k.toNat) + (at_ v_1 k.toNat)))) ((bstI v_2).toNat)) k.toNat) - (at_ v_1 k.toNat)))).length) (oLI 9203 ((ws.set ((fndL p.Labels s.Label).toNat) ((at_ ws ((fndL p.Labels s.Label).toNat)).set k.toNat ((at_ (at_ ws ((fndL p.Labels s.Label).toNat)) k.toNat) + (at_ v_1 k.toNat)))).set ((bstI v_2).toNat) ((at_ (ws.set ((fndL p.Labels s.Label).toNat) ((at_ ws ((fndL p.Labels s.Label).toNat)).set k.toNat ((at_ (at_ ws ((fndL p.Labels s.Label).toNat)) k.toNat) + (at_ v_1 k.toNat)))) ((bstI v_2).toNat)).set k.toNat ((at_ (at_ (ws.set ((fndL p.Labels s.Label).toNat) ((at_ ws ((fndL p.Labels s.Label).toNat)).set k.toNat ((at_ (at_ ws ((fndL p.Labels s.Label).toNat)) k.toNat) + (at_ v_1 k.toNat)))) ((bstI v_2).toNat)) k.toNat) - (at_ v_1 k.toNat)))))), some (.fam ((ws.set ((fndL p.Labels s.Label).toNat) ((at_ ws ((fndL p.Labels s.Label).toNat)).set k.toNat ((at_ (at_ ws ((fndL p.Labels s.Label).toNat)) k.toNat) + (at_ v_1 k.toNat)))).set ((bstI v_2).toNat) ((at_ (ws.set ((fndL p.Labels s.Label).toNat) ((at_ ws ((fndL p.Labels s.Label).toNat)).set k.toNat ((at_ (at_ ws ((fndL p.Labels s.Label).toNat)) k.toNat) + (at_ v_1 k.toNat)))) ((bstI v_2).toNat)).set k.toNat ((at_ (at_ (ws.set ((fndL p.Labels s.Label).toNat) ((at_ ws ((fndL p.Labels s.Label).toNat)).set k.toNat ((at_ (at_ ws ((fndL p.Labels s.Label).toNat)) k.toNat) + (at_ v_1 k.toNat)))) ((bstI v_2).toNat)) k.toNat) - (at_ v_1 k.toNat)))).length 1 (mLI ((ws.set ((fndL p.Labels s.Label).toNat) ((at_ ws ((fndL p.Labels s.Label).toNat)).set k.toNat ((at_ (at_ ws ((fndL p.Labels s.Label).toNat)) k.toNat) + (at_ v_1 k.toNat)))).set ((bstI v_2).toNat) ((at_ (ws.set ((fndL p.Labels s.Label).toNat) ((at_ ws ((fndL p.Labels s.Label).toNat)).set k.toNat ((at_ (at_ ws ((fndL p.Labels s.Label).toNat)) k.toNat) + (at_ v_1 k.toNat)))) ((bstI v_2).toNat)).set k.toNat ((at_ (at_ (ws.set ((fndL p.Labels s.Label).toNat) ((at_ ws ((fndL p.Labels s.Label).toNat)).set k.toNat ((at_ (at_ ws ((fndL p.Labels s.Label).toNat)) k.toNat) + (at_ v_1 k.toNat)))) ((bstI v_2).toNat)) k.toNat) - (at_ v_1 k.toNat))))) (gLI ((ws.set ((fndL p.Labels s.Label).toNat) ((at_ ws ((fndL p.Labels s.Label).toNat)).set k.toNat ((at_ (at_ ws ((fndL p.Labels s.Label).toNat)) k.toNat) + (at_ v_1 k.toNat)))).set ((bstI v_2).toNat) ((at_ (ws.set ((fndL p.Labels s.Label).toNat) ((at_ ws ((fndL p.Labels s.Label).toNat)).set k.toNat ((at_ (at_ ws ((fndL p.Labels s.Label).toNat)) k.toNat) + (at_ v_1 k.toNat)))) ((bstI v_2).toNat)).set k.toNat ((at_ (at_ (ws.set ((fndL p.Labels s.Label).toNat) ((at_ ws ((fndL p.Labels s.Label).toNat)).set k.toNat ((at_ (at_ ws ((fndL p.Labels s.Label).toNat)) k.toNat) + (at_ v_1 k.toNat)))) ((bstI v_2).toNat)) k.toNat) - (at_ v_1 k.toNat))))))] [inR .i64 (k + 1)] ⟨(inR_i64 (by omega) (by omega)), trivial⟩ ?_
     exact xe_again ((k + 1), ((ws.set ((fndL p.Labels s.Label).toNat) ((at_ ws ((fndL p.Labels s.Label).toNat)).set k.toNat ((at_ (at_ ws ((fndL p.Labels s.Label).toNat)) k.toNat) + (at_ v_1 k.toNat)))).set ((bstI v_2).toNat) ((at_ (ws.set ((fndL p.Labels s.Label).toNat) ((at_ ws ((fndL p.Labels s.Label).toNat)).set k.toNat ((at_ (at_ ws ((fndL p.Labels s.Label).toNat)) k.toNat) + (at_ v_1 k.toNat)))) ((bstI v_2).toNat)).set k.toNat ((at_ (at_ (ws.set ((fndL p.Labels s.Label).toNat) ((at_ ws ((fndL p.Labels s.Label).toNat)).set k.toNat ((at_ (at_ ws ((fndL p.Labels s.Label).toNat)) k.toNat) + (at_ v_1 k.toNat)))) ((bstI v_2).toNat)) k.toNat) - (at_ v_1 k.toNat))))) rfl (show (0 ≤ (k + 1) ∧ (k + 1) ≤ 25) ∧ (((ws.set ((fndL p.Labels s.Label).toNat) ((at_ ws ((fndL p.Labels s.Label).toNat)).set k.toNat ((at_ (at_ ws ((fndL p.Labels s.Label).toNat)) k.toNat) + (at_ v_1 k.toNat)))).set ((bstI v_2).toNat) ((at_ (ws.set ((fndL p.Labels s.Label).toNat) ((at_ ws ((fndL p.Labels s.Label).toNat)).set k.toNat ((at_ (at_ ws ((fndL p.Labels s.Label).toNat)) k.toNat) + (at_ v_1 k.toNat)))) ((bstI v_2).toNat)).set k.toNat ((at_ (at_ (ws.set ((fndL p.Labels s.Label).toNat) ((at_ ws ((fndL p.Labels s.Label).toNat)).set k.toNat ((at_ (at_ ws ((fndL p.Labels s.Label).toNat)) k.toNat) + (at_ v_1 k.toNat)))) ((bstI v_2).toNat)) k.toNat) - (at_ v_1 k.toNat)))) = updW p.Weights v_1 (fndL p.Labels s.Label).toNat (bstI v_2).toNat (k + 1).toNat) ∧ True from ⟨(by omega), (by rw [updW_1 hk0.1, ← hws]), trivial⟩) (by first | (show (((25 : Int) - (k + 1)).toNat : Nat) < ((25 : Int) - k).toNat; omega) | (dsimp only; omega))
    have hie : k.toNat = 25 := by omega
    rw [hie] at hws
    have hws2 := hws
    rw [hiv, hsv] at hws2
    refine x_r [(3, .dec false)] [4, 7, 8, 9, 10, 11, 33] [4, 10, 9201, 9202, 9203] [.ref 4 0, slI true v_1, I (fndL p.Labels s.Label), I (bstI v_2), .ref 10 0, I k, Bv false] [some (.box [nilA, nilA]), some (.box [.arr 9201, .arr 9202]), some (.arr 1 ls_3.length (fS ls_3)), some (.oar [9203] 1 ws.length (oLI 9203 ws)), some (.fam ws.length 1 (mLI ws) (gLI ws))] [¬ (k < (v_1.length : Int))] ⟨h2, trivial⟩ ?_
    refine xe_then ?_
    refine x_false rfl ?_
    refine x_exit ?_
    refine xe_exit_then ?_
    refine xe_loop_exit ?_
    refine xe_exit_same ?_
    refine xe_then ?_
    refine x_seq ?_
    refine x_seq ?_
    rcases Bool.eq_false_or_eq_true (okPerc (Perceptron.mk ls_3 ws)) with h3 | h3
    ·have hok3 := h3
     rw [hls, hws2] at hok3
     refine x_r [(0, .call [(false, .ptr false [slS false ls_3, slLI false ws])] true (Bv true))] [4, 10, 65] [4, 10, 9201, 9202, 9203] [.ref 4 0, .ref 10 0, Bv false] [some (.box [nilA, nilA]), some (.box [.arr 9201, .arr 9202]), some (.arr 1 ls_3.length (fS ls_3)), some (.oar [9203] 1 ws.length (oLI 9203 ws)), some (.fam ws.length 1 (mLI ws) (gLI ws))] [Con Try.prog 38 [.ptr false [slS false ls_3, slLI false ws]] true (Bv true) ∧ ((false = true → true = true) ∧ AV.idsL [slS false ls_3, slLI false ws] = [] ∧ ((false = true → true = true) ∧ 1 = 1 ∧ ls_3.length = ls_3.length ∧ ∀ i_, i_ < ls_3.length → (fS ls_3) i_ = (fS ls_3) i_ ∨ (AV.idsL ((fS ls_3) i_) = [] ∧ leL (fun _ => none) false ((fS ls_3) i_) ((fS ls_3) i_))) ∧ ((false = true → true = true) ∧ 1 = 1 ∧ ws.length = ws.length ∧ ∀ i_, i_ < ws.length → AV.idsL ((fLI false ws) i_) = [] ∧ leL (lookO [(9203, .fam ws.length 1 (mLI ws) (gLI ws))]) true ((oLI 9203 ws) i_) ((fLI false ws) i_)) ∧ ([] : List AV) = []) ∧ True] ⟨⟨(con_bool h3 (l12Ok_ok (Perceptron.mk ls_3 ws) (show ∀ y ∈ ls_3, y.size ≤ 9223372036854775807 from by rw [hls]; exact okP_sz hp))), ⟨(fun h => by cases h), rfl, ⟨⟨(fun h => by cases h), rfl, rfl, fun i _ => .inl rfl⟩, ⟨⟨(fun h => by cases h), rfl, rfl, oleLI _ _ rfl⟩, rfl⟩⟩⟩, trivial⟩, trivial⟩ ?_
     refine xe_then ?_
     refine x_false rfl ?_
     refine x_skip ?_
     refine xe_then ?_
     refine xR [] [4, 5, 6] [4, 9201, 9202, 9203] [.ref 4 0, Bv true, I 0] [some (.box [.arr 9201, .arr 9202]), some (.arr 1 ls_3.length (fS ls_3)), some (.oar [9203] 1 ws.length (oLI 9203 ws)), some (.fam ws.length 1 (mLI ws) (gLI ws))] [] trivial ?_
     refine x_ret ?_
     refine xe_weak [(9211, 9201), (9212, 9202)] (T := [(4, .ref 4 0), (5, Bv true), (6, I 0)]) (O := [(4, .box [.arr 9211, .arr 9212]), (9203, .fam ws.length 1 (mLI ws) (gLI ws)), (9211, .arr 1 ls_3.length (fS ls_3)), (9212, .oar [9203] 1 ws.length (oLI 9203 ws))]) rfl (⟨.inl rfl, .inl rfl, .inl rfl, trivial⟩) (⟨.inl rfl, .inl rfl, .inl rfl, .inl rfl, trivial⟩) ?_
     refine xe_end (true, 0, ls_3, ws) (show ((Perceptron.mk ls_3 ws, true, 0) = stepR p s) ∧ (True) from ⟨(by first | (rw [step_a heq, hls, how]; done) | (rw [step_b heq hok3, hls, hws2]; done) | exact (step_c heq (by rw [hok3]; exact Bool.false_ne_true)).symm), trivial⟩) (⟨.inl rfl, .inl rfl, .inl rfl, trivial⟩) (.tup [.agg [.arr 9211, .arr 9212], Bv true, I 0]) (by kernel_rfl) (.inl rfl) (fun h => by cases h) (fun h => by cases h)
    have hok3 := h3
    rw [hls, hws2] at hok3
    refine x_r [(0, .call [(false, .ptr false [slS false ls_3, slLI false ws])] true (Bv false))] [4, 10, 65] [4, 10, 9201, 9202, 9203] [.ref 4 0, .ref 10 0, Bv true] [some (.box [nilA, nilA]), some (.box [.arr 9201, .arr 9202]), some (.arr 1 ls_3.length (fS ls_3)), some (.oar [9203] 1 ws.length (oLI 9203 ws)), some (.fam ws.length 1 (mLI ws) (gLI ws))] [Con Try.prog 38 [.ptr false [slS false ls_3, slLI false ws]] true (Bv false) ∧ ((false = true → true = true) ∧ AV.idsL [slS false ls_3, slLI false ws] = [] ∧ ((false = true → true = true) ∧ 1 = 1 ∧ ls_3.length = ls_3.length ∧ ∀ i_, i_ < ls_3.length → (fS ls_3) i_ = (fS ls_3) i_ ∨ (AV.idsL ((fS ls_3) i_) = [] ∧ leL (fun _ => none) false ((fS ls_3) i_) ((fS ls_3) i_))) ∧ ((false = true → true = true) ∧ 1 = 1 ∧ ws.length = ws.length ∧ ∀ i_, i_ < ws.length → AV.idsL ((fLI false ws) i_) = [] ∧ leL (lookO [(9203, .fam ws.length 1 (mLI ws) (gLI ws))]) true ((oLI 9203 ws) i_) ((fLI false ws) i_)) ∧ ([] : List AV) = []) ∧ True] ⟨⟨(con_bool h3 (l12Ok_ok (Perceptron.mk ls_3 ws) (show ∀ y ∈ ls_3, y.size ≤ 9223372036854775807 from by rw [hls]; exact okP_sz hp))), ⟨(fun h => by cases h), rfl, ⟨⟨(fun h => by cases h), rfl, rfl, fun i _ => .inl rfl⟩, ⟨⟨(fun h => by cases h), rfl, rfl, oleLI _ _ rfl⟩, rfl⟩⟩⟩, trivial⟩, trivial⟩ ?_
    refine xe_then ?_
    refine x_true rfl ?_
    refine xR [] [4, 5, 6] [4] [.ref 4 0, Bv false, I 5] [some (.box [nilA, nilA])] [] trivial ?_
    refine x_ret ?_
    refine xe_ret_then ?_
    refine xe_nilC 4 0 9211 1 (fun _ => []) rfl (by kernel_rfl) ?_
    refine xe_nilC 4 1 9212 1 (fun _ => []) rfl (by kernel_rfl) ?_
    refine xe_fam 9203 1 (fun _ => 0) (fun _ _ => []) (by kernel_rfl) ?_
    refine xe_weak [] (T := [(4, .ref 4 0), (5, Bv false), (6, I 5)]) (O := [(4, .box [.arr 9211, .arr 9212]), (9203, .fam ([] : List (List Int)).length 1 (mLI ([] : List (List Int))) (gLI ([] : List (List Int)))), (9211, .arr 1 (([] : List ByteArray).length) (fS ([] : List ByteArray))), (9212, .oar [9203] 1 (([] : List (List Int)).length) (oLI 9203 ([] : List (List Int))))]) rfl (⟨.inl rfl, .inl rfl, .inl rfl, trivial⟩) (⟨.inl rfl, .inr ⟨rfl, rfl, fun p hp => absurd hp (Nat.not_lt_zero _)⟩, .inr ⟨rfl, (by first | rfl | (simp; done) | (simp; omega) | omega), fun i_ hi_ => absurd hi_ (Nat.not_lt_zero _)⟩, .inr ⟨rfl, rfl, fun i hi => absurd hi (Nat.not_lt_zero _)⟩, trivial⟩) ?_
    refine xe_end (false, 5, ([] : List ByteArray), ([] : List (List Int))) (show ((Perceptron.mk ([] : List ByteArray) ([] : List (List Int)), false, 5) = stepR p s) ∧ (True) from ⟨(by first | (rw [step_a heq, hls, how]; done) | (rw [step_b heq hok3, hls, hws2]; done) | exact (step_c heq (by rw [hok3]; exact Bool.false_ne_true)).symm), trivial⟩) (⟨.inl rfl, .inl rfl, .inl rfl, trivial⟩) (.tup [.agg [.arr 9211, .arr 9212], Bv false, I 5]) (by kernel_rfl) (.inl rfl) (fun h => by cases h) (fun h => by cases h)
  obtain ⟨⟨ch, c, ls, ws⟩, ⟨hh0, _⟩, hc⟩ := hh
  exact ⟨ch, c, ls, ws, hh0, hc⟩


-- spec.l12Epoch
theorem l12Epoch_ok (p : Perceptron) (list : List Sample) (hp : okPerc p = true) (hl : ∀ j, j < list.length → (at_ list j).Label ∈ p.Labels ∧ okFeats (at_ list j).Feats 384 = true) (hll : list.length ≤ 1000) : ∃ (n : Int) (c : Int) (ls : List ByteArray) (ws : List (List Int)), ((Perceptron.mk ls ws, n, c) = epR p list list.length) ∧ CallOK Try.prog 65 [agPerceptron p, slSample false list] (lookO []) false (.tup [.agg [.arr 9221, .arr 9222], I n, I c]) (lookO [(9221, .arr 1 ls.length (fS ls)), (9203, .fam ws.length 1 (mLI ws) (gLI ws)), (9222, .oar [9203] 1 ws.length (oLI 9203 ws))]) := by
  have hh : ∃ r : Int × Int × (List ByteArray) × (List (List Int)), (((Perceptron.mk r.2.2.1 r.2.2.2, r.1, r.2.1) = epR p list list.length) ∧ (True)) ∧ CallOK Try.prog 65 [agPerceptron p, slSample false list] (lookO []) false (.tup [.agg [.arr 9221, .arr 9222], I r.1, I r.2.1]) (lookO [(9221, .arr 1 r.2.2.1.length (fS r.2.2.1)), (9203, .fam r.2.2.2.length 1 (mLI r.2.2.2) (gLI r.2.2.2)), (9222, .oar [9203] 1 r.2.2.2.length (oLI 9203 r.2.2.2))]) := by
    refine fn_okX (Φ := fun r : Int × Int × (List ByteArray) × (List (List Int)) => ((Perceptron.mk r.2.2.1 r.2.2.2, r.1, r.2.1) = epR p list list.length) ∧ (True)) [] (fun r => [(9221, .arr 1 r.2.2.1.length (fS r.2.2.1)), (9203, .fam r.2.2.2.length 1 (mLI r.2.2.2) (gLI r.2.2.2)), (9222, .oar [9203] 1 r.2.2.2.length (oLI 9203 r.2.2.2))]) (fn := Try.f65) (nt := 39) Try.func65 rfl rfl (args := [agPerceptron p, slSample false list]) rfl (allcons (.inl ⟨rfl, by simp [tagged, taggedL, tagLI, tagS]⟩) (allcons (.inl ⟨rfl, tagSample false _⟩) allnil)) (res := fun r => .tup [.agg [.arr 9221, .arr 9222], I r.1, I r.2.1]) ?_
    refine xR [(0, .new 2), (1, .new 4)] [1, 2, 4] [2, 4] [slSample false list, .ref 2 0, .ref 4 0] [some (bxPerceptron p), some (.box [nilA, nilA])] [] trivial ?_
    refine x_seq ?_
    refine x_weak [] (T := [(1, slSample false list), (2, .ptr true [slS false p.Labels, slLI false p.Weights]), (4, .ref 4 0)]) (O := [(4, .box [nilA, nilA])]) rfl (⟨.inl rfl, .inr ⟨(fun _ => rfl), rfl, ⟨⟨(fun h => by cases h), rfl, rfl, fun i _ => .inl rfl⟩, ⟨⟨(fun h => by cases h), rfl, rfl, fun i _ => .inl rfl⟩, rfl⟩⟩⟩, .inl rfl, trivial⟩) (⟨.inl rfl, trivial⟩) ?_
    obtain ⟨ls_1, ws_1, hx1_0, hx1_1, hc1⟩ := l12Own_ok p (okP_bd hp)
    have hls := hx1_0
    have how := hx1_1
    refine x_r [(0, .lend [] [(9201, .arr 1 ls_1.length (fS ls_1)), (9202, .oar [9203] 1 ws_1.length (oLI 9203 ws_1)), (9203, .fam ws_1.length 1 (mLI ws_1) (gLI ws_1))] [(false, .ptr false [slS false p.Labels, slLI false p.Weights])] false (.agg [.arr 9201, .arr 9202])), (1, .new 7)] [1, 4, 7] [4, 7, 9201, 9202, 9203] [slSample false list, .ref 4 0, .ref 7 0] [some (.box [nilA, nilA]), some (.box [.arr 9201, .arr 9202]), some (.arr 1 ls_1.length (fS ls_1)), some (.oar [9203] 1 ws_1.length (oLI 9203 ws_1)), some (.fam ws_1.length 1 (mLI ws_1) (gLI ws_1))] [CallOK Try.prog 52 [.ptr false [slS false p.Labels, slLI false p.Weights]] (lookO []) false (.agg [.arr 9201, .arr 9202]) (lookO [(9201, .arr 1 ls_1.length (fS ls_1)), (9202, .oar [9203] 1 ws_1.length (oLI 9203 ws_1)), (9203, .fam ws_1.length 1 (mLI ws_1) (gLI ws_1))]) ∧ ((false = true → true = true) ∧ AV.idsL [slS false p.Labels, slLI false p.Weights] = [] ∧ ((false = true → false = true) ∧ 1 = 1 ∧ p.Labels.length = p.Labels.length ∧ ∀ i_, i_ < p.Labels.length → (fS p.Labels) i_ = (fS p.Labels) i_ ∨ (AV.idsL ((fS p.Labels) i_) = [] ∧ leL (fun _ => none) false ((fS p.Labels) i_) ((fS p.Labels) i_))) ∧ ((false = true → false = true) ∧ 1 = 1 ∧ p.Weights.length = p.Weights.length ∧ ∀ i_, i_ < p.Weights.length → (fLI false p.Weights) i_ = (fLI false p.Weights) i_ ∨ (AV.idsL ((fLI false p.Weights) i_) = [] ∧ leL (fun _ => none) false ((fLI false p.Weights) i_) ((fLI false p.Weights) i_))) ∧ ([] : List AV) = []) ∧ True] ⟨⟨hc1, ⟨(fun h => by cases h), rfl, ⟨⟨(fun h => by cases h), rfl, rfl, fun i _ => .inl rfl⟩, ⟨⟨(fun h => by cases h), rfl, rfl, fun i _ => .inl rfl⟩, rfl⟩⟩⟩, trivial⟩, trivial⟩ ?_
    refine xe_then ?_
    refine xR [] [1, 4, 7, 8] [4, 7, 9201, 9202, 9203] [slSample false list, .ref 4 0, .ref 7 0, I 0] [some (.box [nilA, nilA]), some (.box [.arr 9201, .arr 9202]), some (.arr 1 ls_1.length (fS ls_1)), some (.oar [9203] 1 ws_1.length (oLI 9203 ws_1)), some (.fam ws_1.length 1 (mLI ws_1) (gLI ws_1))] [] trivial ?_
    refine x_seq ?_
    refine xR [] [1, 4, 7, 8, 9] [4, 7, 9201, 9202, 9203] [slSample false list, .ref 4 0, .ref 7 0, I 0, I 0] [some (.box [nilA, nilA]), some (.box [.arr 9201, .arr 9202]), some (.arr 1 ls_1.length (fS ls_1)), some (.oar [9203] 1 ws_1.length (oLI 9203 ws_1)), some (.fam ws_1.length 1 (mLI ws_1) (gLI ws_1))] [] trivial ?_
    refine x_block ?_
    refine x_loop (X := Int × Int × (List ByteArray) × (List (List Int))) (fun x => mkS [(1, slSample false list), (4, .ref 4 0), (7, .ref 7 0), (8, I x.1), (9, I x.2.1)] [(4, .box [nilA, nilA]), (7, .box [.arr 9201, .arr 9202]), (9201, .arr 1 x.2.2.1.length (fS x.2.2.1)), (9202, .oar [9203] 1 x.2.2.2.length (oLI 9203 x.2.2.2)), (9203, .fam x.2.2.2.length 1 (mLI x.2.2.2) (gLI x.2.2.2))]) (fun x => (0 ≤ x.2.1 ∧ x.2.1 ≤ (list.length : Int)) ∧ (epR p list x.2.1.toNat = (Perceptron.mk x.2.2.1 x.2.2.2, x.1, 0)) ∧ (okPerc (Perceptron.mk x.2.2.1 x.2.2.2) = true) ∧ ((Perceptron.mk x.2.2.1 x.2.2.2).Labels = p.Labels) ∧ (0 ≤ x.1 ∧ x.1 ≤ x.2.1) ∧ True) (fun x => ((list.length : Int) - x.2.1).toNat) (0, 0, ls_1, ws_1) rfl (show (0 ≤ (0 : Int) ∧ (0 : Int) ≤ (list.length : Int)) ∧ (epR p list (0 : Int).toNat = (Perceptron.mk ls_1 ws_1, (0 : Int), 0)) ∧ (okPerc (Perceptron.mk ls_1 ws_1) = true) ∧ ((Perceptron.mk ls_1 ws_1).Labels = p.Labels) ∧ (0 ≤ (0 : Int) ∧ (0 : Int) ≤ (0 : Int)) ∧ True from ⟨(by omega), (by rw [hls, how]; rfl), (by rw [hls, how]; exact hp), (by rw [hls]), (by omega), trivial⟩) (fun x hI => ?_)
    obtain ⟨n, i, ls, ws⟩ := x
    obtain ⟨hi0, hep, hok, hlb, hnb, _⟩ : (0 ≤ i ∧ i ≤ (list.length : Int)) ∧ (epR p list i.toNat = (Perceptron.mk ls ws, n, 0)) ∧ (okPerc (Perceptron.mk ls ws) = true) ∧ ((Perceptron.mk ls ws).Labels = p.Labels) ∧ (0 ≤ n ∧ n ≤ i) ∧ True := hI
    show XW _ _ _ _ (mkS [(1, slSample false list), (4, .ref 4 0), (7, .ref 7 0), (8, I n), (9, I i)] [(4, .box [nilA, nilA]), (7, .box [.arr 9201, .arr 9202]), (9201, .arr 1 ls.length (fS ls)), (9202, .oar [9203] 1 ws.length (oLI 9203 ws)), (9203, .fam ws.length 1 (mLI ws) (gLI ws))]) _ _
    refine x_seq ?_
    refine x_seq ?_
    by_cases h1 : i < (list.length : Int)
    ·have hi : i.toNat < list.length := by omega
     have hsm := hl i.toNat hi
     refine x_r [(3, .dec true)] [1, 4, 7, 8, 9, 17] [4, 7, 9201, 9202, 9203] [slSample false list, .ref 4 0, .ref 7 0, I n, I i, Bv true] [some (.box [nilA, nilA]), some (.box [.arr 9201, .arr 9202]), some (.arr 1 ls.length (fS ls)), some (.oar [9203] 1 ws.length (oLI 9203 ws)), some (.fam ws.length 1 (mLI ws) (gLI ws))] [i < (list.length : Int)] ⟨h1, trivial⟩ ?_
     refine xe_then ?_
     refine x_true rfl ?_
     refine x_skip ?_
     refine xe_then ?_
     refine x_seq ?_
     refine x_block ?_
     refine x_seq ?_
     refine x_weak [] (T := [(1, slSample false list), (4, .ref 4 0), (7, .ref 7 0), (8, I n), (9, I i), (17, Bv true)]) (O := [(4, .box [nilA, nilA]), (7, .box [slS true ls, slLI true ws])]) rfl (⟨.inl rfl, .inl rfl, .inl rfl, .inl rfl, .inl rfl, .inl rfl, trivial⟩) (⟨.inl rfl, .inr ⟨⟨(fun _ => rfl), rfl, rfl, fun i _ => .inl rfl⟩, ⟨⟨(fun _ => rfl), rfl, rfl, oleLI _ _ rfl⟩, rfl⟩⟩, trivial⟩) ?_
     obtain ⟨ch_2, c_2, ls_2, ws_2, hx2_0, hc2⟩ := l12Step_ok (Perceptron.mk ls ws) (at_ list i.toNat) hok (by rw [hlb]; exact hsm.1) hsm.2
     have hst := hx2_0
     refine x_r [(4, .lend [] [(9211, .arr 1 ls_2.length (fS ls_2)), (9203, .fam ws_2.length 1 (mLI ws_2) (gLI ws_2)), (9212, .oar [9203] 1 ws_2.length (oLI 9203 ws_2))] [(false, .agg [slS false ls, slLI false ws]), (true, .any)] false (.tup [.agg [.arr 9211, .arr 9212], Bv ch_2, I c_2])), (9, .new 10)] [1, 4, 7, 8, 9, 10, 11, 12] [4, 7, 10, 9203, 9211, 9212] [slSample false list, .ref 4 0, .ref 7 0, I n, I i, .ref 10 0, Bv ch_2, I c_2] [some (.box [nilA, nilA]), some (.box [slS true ls, slLI true ws]), some (.box [.arr 9211, .arr 9212]), some (.fam ws_2.length 1 (mLI ws_2) (gLI ws_2)), some (.arr 1 ls_2.length (fS ls_2)), some (.oar [9203] 1 ws_2.length (oLI 9203 ws_2))] [(0 : Int) ≤ i ∧ i < (list.length : Int), CallOK Try.prog 90 [.agg [slS false ls, slLI false ws], .ptr false [Sv ((at_ list i.toNat).Label), slFeat false ((at_ list i.toNat).Feats)]] (lookO []) false (.tup [.agg [.arr 9211, .arr 9212], Bv ch_2, I c_2]) (lookO [(9211, .arr 1 ls_2.length (fS ls_2)), (9203, .fam ws_2.length 1 (mLI ws_2) (gLI ws_2)), (9212, .oar [9203] 1 ws_2.length (oLI 9203 ws_2))]) ∧ (((false = true → true = true) ∧ 1 = 1 ∧ ls.length = ls.length ∧ ∀ i_, i_ < ls.length → (fS ls) i_ = (fS ls) i_ ∨ (AV.idsL ((fS ls) i_) = [] ∧ leL (fun _ => none) false ((fS ls) i_) ((fS ls) i_))) ∧ ((false = true → true = true) ∧ 1 = 1 ∧ ws.length = ws.length ∧ ∀ i_, i_ < ws.length → (fLI true ws) i_ = (fLI false ws) i_ ∨ (AV.idsL ((fLI false ws) i_) = [] ∧ leL (fun _ => none) false ((fLI true ws) i_) ((fLI false ws) i_))) ∧ ([] : List AV) = []) ∧ True] ⟨⟨(by omega), (by omega)⟩, ⟨hc2, ⟨⟨(fun h => by cases h), rfl, rfl, fun i _ => .inl rfl⟩, ⟨⟨(fun h => by cases h), rfl, rfl, fun i _ => .inr ⟨idsLI _ _, leLI _ _ _⟩⟩, rfl⟩⟩, trivial⟩, trivial⟩ ?_
     refine xe_then ?_
     refine x_seq ?_
     refine x_seq ?_
     by_cases h2 : c_2 = 0
     ·have hs0 : (stepR (Perceptron.mk ls ws) (at_ list i.toNat)).2.2 = 0 := by rw [← hst]; exact h2
      have hsk := stp_ok hok hs0
      have hgo := epR_go hi0.1 hep hs0
      have hst1 : (stepR (Perceptron.mk ls ws) (at_ list i.toNat)).1 = Perceptron.mk ls_2 ws_2 := by rw [← hst]
      have hst2 : (stepR (Perceptron.mk ls ws) (at_ list i.toNat)).2.1 = ch_2 := by rw [← hst]
      rw [hst1] at hsk hgo
      rw [hst2] at hgo
      refine x_r [(1, .dec false)] [1, 4, 7, 8, 9, 10, 11, 12, 30] [4, 7, 10, 9203, 9211, 9212] [slSample false list, .ref 4 0, .ref 7 0, I n, I i, .ref 10 0, Bv ch_2, I c_2, Bv false] [some (.box [nilA, nilA]), some (.box [slS true ls, slLI true ws]), some (.box [.arr 9211, .arr 9212]), some (.fam ws_2.length 1 (mLI ws_2) (gLI ws_2)), some (.arr 1 ls_2.length (fS ls_2)), some (.oar [9203] 1 ws_2.length (oLI 9203 ws_2))] [¬ (c_2 ≠ 0)] ⟨(fun hq => hq h2), trivial⟩ ?_
      refine xe_then ?_
      refine x_false rfl ?_
      refine x_skip ?_
      refine xe_then ?_
      refine x_seq ?_
      refine xR [] [1, 4, 7, 8, 9, 10, 33] [4, 7, 10, 9203, 9211, 9212] [slSample false list, .ref 4 0, .ref 7 0, I n, I i, .ref 10 0, Bv ch_2] [some (.box [nilA, nilA]), some (.box [slS true ls, slLI true ws]), some (.box [.arr 9211, .arr 9212]), some (.fam ws_2.length 1 (mLI ws_2) (gLI ws_2)), some (.arr 1 ls_2.length (fS ls_2)), some (.oar [9203] 1 ws_2.length (oLI 9203 ws_2))] [] trivial ?_
      rcases Bool.eq_false_or_eq_true ch_2 with h3 | h3
      ·refine x_true (congrArg Bv h3) ?_
       refine x_r [] [1, 4, 7, 8, 9, 10] [4, 7, 10, 9203, 9211, 9212] [slSample false list, .ref 4 0, .ref 7 0, I (n + 1), I i, .ref 10 0] [some (.box [nilA, nilA]), some (.box [slS true ls, slLI true ws]), some (.box [.arr 9211, .arr 9212]), some (.fam ws_2.length 1 (mLI ws_2) (gLI ws_2)), some (.arr 1 ls_2.length (fS ls_2)), some (.oar [9203] 1 ws_2.length (oLI 9203 ws_2))] [inR .i64 (n + 1)] ⟨(inR_i64 (by omega) (by omega)), trivial⟩ ?_
       refine xe_then ?_
       refine x_r [] [1, 4, 7, 8, 9] [4, 7, 9203, 9211, 9212] [slSample false list, .ref 4 0, .ref 7 0, I (n + 1), I i] [some (.box [nilA, nilA]), some (.box [.arr 9211, .arr 9212]), some (.fam ws_2.length 1 (mLI ws_2) (gLI ws_2)), some (.arr 1 ls_2.length (fS ls_2)), some (.oar [9203] 1 ws_2.length (oLI 9203 ws_2))] [] trivial ?_
       refine xe_block 1 ?_
       refine xe_then ?_
       refine x_r [] [1, 4, 7, 8, 9] [4, 7, 9203, 9211, 9212] [slSample false list, .ref 4 0, .ref 7 0, I (n + 1), I (i + 1)] [some (.box [nilA, nilA]), some (.box [.arr 9211, .arr 9212]), some (.fam ws_2.length 1 (mLI ws_2) (gLI ws_2)), some (.arr 1 ls_2.length (fS ls_2)), some (.oar [9203] 1 ws_2.length (oLI 9203 ws_2))] [inR .i64 (i + 1)] ⟨(inR_i64 (by omega) (by omega)), trivial⟩ ?_
       refine xe_weak [(9201, 9211), (9202, 9212)] (T := [(1, slSample false list), (4, .ref 4 0), (7, .ref 7 0), (8, I (n + 1)), (9, I (i + 1))]) (O := [(4, .box [nilA, nilA]), (7, .box [.arr 9201, .arr 9202]), (9201, .arr 1 ls_2.length (fS ls_2)), (9202, .oar [9203] 1 ws_2.length (oLI 9203 ws_2)), (9203, .fam ws_2.length 1 (mLI ws_2) (gLI ws_2))]) rfl (⟨.inl rfl, .inl rfl, .inl rfl, .inl rfl, .inl rfl, trivial⟩) (⟨.inl rfl, .inl rfl, .inl rfl, .inl rfl, .inl rfl, trivial⟩) (xe_again ((n + 1), (i + 1), ls_2, ws_2) rfl (show (0 ≤ (i + 1) ∧ (i + 1) ≤ (list.length : Int)) ∧ (epR p list (i + 1).toNat = (Perceptron.mk ls_2 ws_2, (n + 1), 0)) ∧ (okPerc (Perceptron.mk ls_2 ws_2) = true) ∧ ((Perceptron.mk ls_2 ws_2).Labels = p.Labels) ∧ (0 ≤ (n + 1) ∧ (n + 1) ≤ (i + 1)) ∧ True from ⟨(by omega), (by first | (rw [hgo]; rfl) | (rw [hgo]; simp [*]; done)), (by exact hsk.1), (by exact hsk.2.trans hlb), (by omega), trivial⟩) (by first | (show (((list.length : Int) - (i + 1)).toNat : Nat) < ((list.length : Int) - i).toNat; omega) | (dsimp only; omega)))
      refine x_false (congrArg Bv h3) ?_
      refine x_skip ?_
      refine xe_then ?_
      refine x_r [] [1, 4, 7, 8, 9] [4, 7, 9203, 9211, 9212] [slSample false list, .ref 4 0, .ref 7 0, I n, I i] [some (.box [nilA, nilA]), some (.box [.arr 9211, .arr 9212]), some (.fam ws_2.length 1 (mLI ws_2) (gLI ws_2)), some (.arr 1 ls_2.length (fS ls_2)), some (.oar [9203] 1 ws_2.length (oLI 9203 ws_2))] [] trivial ?_
      refine xe_block 1 ?_
      refine xe_then ?_
      refine x_r [] [1, 4, 7, 8, 9] [4, 7, 9203, 9211, 9212] [slSample false list, .ref 4 0, .ref 7 0, I n, I (i + 1)] [some (.box [nilA, nilA]), some (.box [.arr 9211, .arr 9212]), some (.fam ws_2.length 1 (mLI ws_2) (gLI ws_2)), some (.arr 1 ls_2.length (fS ls_2)), some (.oar [9203] 1 ws_2.length (oLI 9203 ws_2))] [inR .i64 (i + 1)] ⟨(inR_i64 (by omega) (by omega)), trivial⟩ ?_
      refine xe_weak [(9201, 9211), (9202, 9212)] (T := [(1, slSample false list), (4, .ref 4 0), (7, .ref 7 0), (8, I n), (9, I (i + 1))]) (O := [(4, .box [nilA, nilA]), (7, .box [.arr 9201, .arr 9202]), (9201, .arr 1 ls_2.length (fS ls_2)), (9202, .oar [9203] 1 ws_2.length (oLI 9203 ws_2)), (9203, .fam ws_2.length 1 (mLI ws_2) (gLI ws_2))]) rfl (⟨.inl rfl, .inl rfl, .inl rfl, .inl rfl, .inl rfl, trivial⟩) (⟨.inl rfl, .inl rfl, .inl rfl, .inl rfl, .inl rfl, trivial⟩) (xe_again (n, (i + 1), ls_2, ws_2) rfl (show (0 ≤ (i + 1) ∧ (i + 1) ≤ (list.length : Int)) ∧ (epR p list (i + 1).toNat = (Perceptron.mk ls_2 ws_2, n, 0)) ∧ (okPerc (Perceptron.mk ls_2 ws_2) = true) ∧ ((Perceptron.mk ls_2 ws_2).Labels = p.Labels) ∧ (0 ≤ n ∧ n ≤ (i + 1)) ∧ True from ⟨(by omega), (by first | (rw [hgo]; rfl) | (rw [hgo]; simp [*]; done)), (by exact hsk.1), (by exact hsk.2.trans hlb), (by omega), trivial⟩) (by first | (show (((list.length : Int) - (i + 1)).toNat : Nat) < ((list.length : Int) - i).toNat; omega) | (dsimp only; omega)))
     have hs0 : ¬ (stepR (Perceptron.mk ls ws) (at_ list i.toNat)).2.2 = 0 := by rw [← hst]; exact h2
     have hend := epR_stop (m := list.length) hep hs0 hi
     rw [← hst] at hend
     refine x_r [(1, .dec true)] [1, 4, 7, 8, 9, 10, 11, 12, 30] [4, 7, 10, 9203, 9211, 9212] [slSample false list, .ref 4 0, .ref 7 0, I n, I i, .ref 10 0, Bv ch_2, I c_2, Bv true] [some (.box [nilA, nilA]), some (.box [slS true ls, slLI true ws]), some (.box [.arr 9211, .arr 9212]), some (.fam ws_2.length 1 (mLI ws_2) (gLI ws_2)), some (.arr 1 ls_2.length (fS ls_2)), some (.oar [9203] 1 ws_2.length (oLI 9203 ws_2))] [c_2 ≠ 0] ⟨h2, trivial⟩ ?_
     refine xe_then ?_
     refine x_true rfl ?_
     refine xR [] [4, 5, 6] [4] [.ref 4 0, I 0, I c_2] [some (.box [nilA, nilA])] [] trivial ?_
     refine x_ret ?_
     refine xe_ret_then (xe_ret_block (xe_ret_then (xe_loop_ret (xe_ret_block (xe_ret_then ?_)))))
     refine xe_nilC 4 0 9221 1 (fun _ => []) rfl (by kernel_rfl) ?_
     refine xe_nilC 4 1 9222 1 (fun _ => []) rfl (by kernel_rfl) ?_
     refine xe_fam 9203 1 (fun _ => 0) (fun _ _ => []) (by kernel_rfl) ?_
     refine xe_weak [] (T := [(4, .ref 4 0), (5, I 0), (6, I c_2)]) (O := [(4, .box [.arr 9221, .arr 9222]), (9203, .fam ([] : List (List Int)).length 1 (mLI ([] : List (List Int))) (gLI ([] : List (List Int)))), (9221, .arr 1 (([] : List ByteArray).length) (fS ([] : List ByteArray))), (9222, .oar [9203] 1 (([] : List (List Int)).length) (oLI 9203 ([] : List (List Int))))]) rfl (⟨.inl rfl, .inl rfl, .inl rfl, trivial⟩) (⟨.inl rfl, .inr ⟨rfl, rfl, fun p hp => absurd hp (Nat.not_lt_zero _)⟩, .inr ⟨rfl, (by first | rfl | (simp; done) | (simp; omega) | omega), fun i_ hi_ => absurd hi_ (Nat.not_lt_zero _)⟩, .inr ⟨rfl, rfl, fun i hi => absurd hi (Nat.not_lt_zero _)⟩, trivial⟩) ?_
     refine xe_end (0, c_2, ([] : List ByteArray), ([] : List (List Int))) (show ((Perceptron.mk ([] : List ByteArray) ([] : List (List Int)), 0, c_2) = epR p list list.length) ∧ (True) from ⟨(by first | exact hep.symm | exact hend.symm), trivial⟩) (⟨.inl rfl, .inl rfl, .inl rfl, trivial⟩) (.tup [.agg [.arr 9221, .arr 9222], I 0, I c_2]) (by kernel_rfl) (.inl rfl) (fun h => by cases h) (fun h => by cases h)
    have hie : i.toNat = list.length := by omega
    rw [hie] at hep
    refine x_r [(3, .dec false)] [1, 4, 7, 8, 9, 17] [4, 7, 9201, 9202, 9203] [slSample false list, .ref 4 0, .ref 7 0, I n, I i, Bv false] [some (.box [nilA, nilA]), some (.box [.arr 9201, .arr 9202]), some (.arr 1 ls.length (fS ls)), some (.oar [9203] 1 ws.length (oLI 9203 ws)), some (.fam ws.length 1 (mLI ws) (gLI ws))] [¬ (i < (list.length : Int))] ⟨h1, trivial⟩ ?_
    refine xe_then ?_
    refine x_false rfl ?_
    refine x_exit ?_
    refine xe_exit_then ?_
    refine xe_loop_exit ?_
    refine xe_exit_same ?_
    refine xe_then ?_
    refine xR [] [4, 5, 6] [4, 9201, 9202, 9203] [.ref 4 0, I n, I 0] [some (.box [.arr 9201, .arr 9202]), some (.arr 1 ls.length (fS ls)), some (.oar [9203] 1 ws.length (oLI 9203 ws)), some (.fam ws.length 1 (mLI ws) (gLI ws))] [] trivial ?_
    refine x_ret ?_
    refine xe_weak [(9221, 9201), (9222, 9202)] (T := [(4, .ref 4 0), (5, I n), (6, I 0)]) (O := [(4, .box [.arr 9221, .arr 9222]), (9203, .fam ws.length 1 (mLI ws) (gLI ws)), (9221, .arr 1 ls.length (fS ls)), (9222, .oar [9203] 1 ws.length (oLI 9203 ws))]) rfl (⟨.inl rfl, .inl rfl, .inl rfl, trivial⟩) (⟨.inl rfl, .inl rfl, .inl rfl, .inl rfl, trivial⟩) ?_
    refine xe_end (n, 0, ls, ws) (show ((Perceptron.mk ls ws, n, 0) = epR p list list.length) ∧ (True) from ⟨(by first | exact hep.symm | exact hend.symm), trivial⟩) (⟨.inl rfl, .inl rfl, .inl rfl, trivial⟩) (.tup [.agg [.arr 9221, .arr 9222], I n, I 0]) (by kernel_rfl) (.inl rfl) (fun h => by cases h) (fun h => by cases h)
  obtain ⟨⟨n, c, ls, ws⟩, ⟨hh0, _⟩, hc⟩ := hh
  exact ⟨n, c, ls, ws, hh0, hc⟩


-- spec.l12Draw
theorem l12Draw_ok (s : l00Src) (hs : okSrc s) (ha : s.atx ≤ 3999999999999996000) : ∃ (s' : l00Src) (ls : List ByteArray) (ws : List (List Int)), (okSrc s') ∧ (s'.code = s.code) ∧ (s.atx + 0 ≤ s'.atx ∧ s'.atx ≤ s.atx + 900) ∧ (okPerc (Perceptron.mk ls ws) = true) ∧ CallOK Try.prog 51 [.ref 7001 0] (lookO [(7001, bxl00Src s)]) false (.agg [.arr 9231, .arr 9232]) (lookO [(7001, bxl00Src s'), (9231, .arr 1 ls.length (fS ls)), (9203, .fam ws.length 1 (mLI ws) (gLI ws)), (9232, .oar [9203] 1 ws.length (oLI 9203 ws))]) := by
  have hh : ∃ r : l00Src × (List ByteArray) × (List (List Int)), ((okSrc r.1) ∧ (r.1.code = s.code) ∧ (s.atx + 0 ≤ r.1.atx ∧ r.1.atx ≤ s.atx + 900) ∧ (okPerc (Perceptron.mk r.2.1 r.2.2) = true) ∧ (True)) ∧ CallOK Try.prog 51 [.ref 7001 0] (lookO [(7001, bxl00Src s)]) false (.agg [.arr 9231, .arr 9232]) (lookO [(7001, bxl00Src r.1), (9231, .arr 1 r.2.1.length (fS r.2.1)), (9203, .fam r.2.2.length 1 (mLI r.2.2) (gLI r.2.2)), (9232, .oar [9203] 1 r.2.2.length (oLI 9203 r.2.2))]) := by
    refine fn_okX (Φ := fun r : l00Src × (List ByteArray) × (List (List Int)) => (okSrc r.1) ∧ (r.1.code = s.code) ∧ (s.atx + 0 ≤ r.1.atx ∧ r.1.atx ≤ s.atx + 900) ∧ (okPerc (Perceptron.mk r.2.1 r.2.2) = true) ∧ (True)) [(7001, bxl00Src s)] (fun r => [(7001, bxl00Src r.1), (9231, .arr 1 r.2.1.length (fS r.2.1)), (9203, .fam r.2.2.length 1 (mLI r.2.2) (gLI r.2.2)), (9232, .oar [9203] 1 r.2.2.length (oLI 9203 r.2.2))]) (fn := Try.f51) (nt := 25) Try.func51 rfl rfl (args := [.ref 7001 0]) rfl (allcons (.inr trivial) allnil) (res := fun r => .agg [.arr 9231, .arr 9232]) ?_
    refine xR [(0, .new 2)] [0, 2] [2, 7001] [.ref 7001 0, .ref 2 0] [some (.box [nilA, nilA]), some (bxl00Src s)] [] trivial ?_
    refine x_seq ?_
    obtain ⟨v_1, s'_1, hx1_0, hx1_1, hx1_2, hx1_3, hc1⟩ := l12DrawLabels_ok s (by first | assumption | (simp only [okSrc] at *; simp_all; done)) (by omega)
    have hlb := hx1_3
    have hln := okLabels_n hlb
    obtain ⟨v_2, c_2, hx2_0, hc2⟩ := specNewPerceptron_ok v_1 (fun y hy => by have := (okLabels_pw hlb).1 y hy; simp only [okLabel, Bool.and_eq_true, decide_eq_true_eq] at this; omega)
    have hnw := hx2_0
    have hnp : v_2 = (newR v_1).1 := by rw [← hnw]
    have hnl : v_2.Labels = v_1 := by rw [hnp, newR_yes hlb]
    have hnk : okPerc v_2 = true := by rw [hnp, newR_yes hlb]; exact new_ok hlb
    refine x_r [(1, .lend [(7001, bxl00Src s, bxl00Src s'_1)] [] [(true, .any)] true (slS true v_1)), (2, .call [(false, slS false v_1)] true (.tup [agPerceptronT v_2, I c_2])), (6, .new 3)] [0, 2, 3] [2, 3, 7001] [.ref 7001 0, .ref 2 0, .ref 3 0] [some (.box [nilA, nilA]), some (bxPerceptronT v_2), some (bxl00Src s'_1)] [CallOK Try.prog 79 [.ref 7001 0] (lookO [(7001, bxl00Src s)]) true (slS true v_1) (lookO [(7001, bxl00Src s'_1)]) ∧ (((bxl00Src s : Ob) = bxl00Src s ∨ obLe noOb true (bxl00Src s) (bxl00Src s)) ∧ taggedO false (bxl00Src s)) ∧ True, Con Try.prog 13 [slS false v_1] true (.tup [agPerceptronT v_2, I c_2]) ∧ ((false = true → true = true) ∧ 1 = 1 ∧ v_1.length = v_1.length ∧ ∀ i_, i_ < v_1.length → (fS v_1) i_ = (fS v_1) i_ ∨ (AV.idsL ((fS v_1) i_) = [] ∧ leL (fun _ => none) false ((fS v_1) i_) ((fS v_1) i_))) ∧ True] ⟨⟨hc1, ⟨.inl rfl, (by simp [taggedO, taggedL, tagged, tagU8])⟩, trivial⟩, ⟨hc2, ⟨(fun h => by cases h), rfl, rfl, fun i _ => .inl rfl⟩, trivial⟩, trivial⟩ ?_
    refine xe_then ?_
    refine x_seq ?_
    refine x_weak [] (T := [(0, .ref 7001 0), (2, .ref 2 0), (3, .ptr true [slS true v_2.Labels, slLI true v_2.Weights])]) (O := [(2, .box [nilA, nilA]), (7001, bxl00Src s'_1)]) rfl (⟨.inl rfl, .inl rfl, .inr ⟨(fun _ => rfl), rfl, ⟨⟨(fun _ => rfl), rfl, rfl, fun i _ => .inl rfl⟩, ⟨⟨(fun _ => rfl), rfl, rfl, fun i _ => .inl rfl⟩, rfl⟩⟩⟩, trivial⟩) (⟨.inl rfl, .inl rfl, trivial⟩) ?_
    obtain ⟨s'_3, sm_3, hx3_0, hx3_1, hx3_2, hx3_3, hx3_4, hc3⟩ := l12DrawSamples_ok s'_1 v_2 8 (by first | assumption | (simp only [okSrc] at *; simp_all; done)) (by omega) (by rw [hnl]; omega) (by omega)
    have hsl := hx3_3
    have hsm := hx3_4
    refine x_r [(1, .lend [(7001, bxl00Src s'_1, bxl00Src s'_3)] [(9311, .arr 2 sm_3.length (fSample true sm_3))] [(true, .any), (false, .ptr false [slS false v_2.Labels, slLI false v_2.Weights]), (true, .any)] false (.arr 9311))] [2, 3, 5] [2, 7001, 9311] [.ref 2 0, .ptr true [slS true v_2.Labels, slLI true v_2.Weights], .arr 9311] [some (.box [nilA, nilA]), some (bxl00Src s'_3), some (.arr 2 sm_3.length (fSample true sm_3))] [CallOK Try.prog 80 [.ref 7001 0, .ptr false [slS false v_2.Labels, slLI false v_2.Weights], I 8] (lookO [(7001, bxl00Src s'_1)]) false (.arr 9311) (lookO [(7001, bxl00Src s'_3), (9311, .arr 2 sm_3.length (fSample true sm_3))]) ∧ ((false = true → true = true) ∧ AV.idsL [slS false v_2.Labels, slLI false v_2.Weights] = [] ∧ ((false = true → true = true) ∧ 1 = 1 ∧ v_2.Labels.length = v_2.Labels.length ∧ ∀ i_, i_ < v_2.Labels.length → (fS v_2.Labels) i_ = (fS v_2.Labels) i_ ∨ (AV.idsL ((fS v_2.Labels) i_) = [] ∧ leL (fun _ => none) false ((fS v_2.Labels) i_) ((fS v_2.Labels) i_))) ∧ ((false = true → true = true) ∧ 1 = 1 ∧ v_2.Weights.length = v_2.Weights.length ∧ ∀ i_, i_ < v_2.Weights.length → (fLI true v_2.Weights) i_ = (fLI false v_2.Weights) i_ ∨ (AV.idsL ((fLI false v_2.Weights) i_) = [] ∧ leL (fun _ => none) false ((fLI true v_2.Weights) i_) ((fLI false v_2.Weights) i_))) ∧ ([] : List AV) = []) ∧ (((bxl00Src s'_1 : Ob) = bxl00Src s'_1 ∨ obLe noOb true (bxl00Src s'_1) (bxl00Src s'_1)) ∧ taggedO false (bxl00Src s'_1)) ∧ True] ⟨⟨hc3, ⟨(fun h => by cases h), rfl, ⟨⟨(fun h => by cases h), rfl, rfl, fun i _ => .inl rfl⟩, ⟨⟨(fun h => by cases h), rfl, rfl, fun i _ => .inr ⟨idsLI _ _, leLI _ _ _⟩⟩, rfl⟩⟩⟩, ⟨.inl rfl, (by simp [taggedO, taggedL, tagged, tagU8])⟩, trivial⟩, trivial⟩ ?_
    refine xe_then ?_
    refine x_seq ?_
    obtain ⟨n_4, c_4, ls_4, ws_4, hx4_0, hc4⟩ := l12Epoch_ok v_2 sm_3 hnk (fun j hj => hsm _ (at_mem hj)) (by omega)
    have hep := hx4_0
    have hen := ep_new hlb (list := sm_3) (by rw [hnl] at hsm; exact hsm) (by omega)
    rw [← hnp, ← hep] at hen
    refine x_r [(2, .lend [] [(9221, .arr 1 ls_4.length (fS ls_4)), (9203, .fam ws_4.length 1 (mLI ws_4) (gLI ws_4)), (9222, .oar [9203] 1 ws_4.length (oLI 9203 ws_4))] [(false, agPerceptron v_2), (false, slSample false sm_3)] false (.tup [.agg [.arr 9221, .arr 9222], I n_4, I c_4])), (7, .new 6)] [2, 6] [2, 6, 7001, 9203, 9221, 9222] [.ref 2 0, .ref 6 0] [some (.box [nilA, nilA]), some (.box [.arr 9221, .arr 9222]), some (bxl00Src s'_3), some (.fam ws_4.length 1 (mLI ws_4) (gLI ws_4)), some (.arr 1 ls_4.length (fS ls_4)), some (.oar [9203] 1 ws_4.length (oLI 9203 ws_4))] [CallOK Try.prog 65 [agPerceptron v_2, slSample false sm_3] (lookO []) false (.tup [.agg [.arr 9221, .arr 9222], I n_4, I c_4]) (lookO [(9221, .arr 1 ls_4.length (fS ls_4)), (9203, .fam ws_4.length 1 (mLI ws_4) (gLI ws_4)), (9222, .oar [9203] 1 ws_4.length (oLI 9203 ws_4))]) ∧ (((false = true → true = true) ∧ 1 = 1 ∧ v_2.Labels.length = v_2.Labels.length ∧ ∀ i_, i_ < v_2.Labels.length → (fS v_2.Labels) i_ = (fS v_2.Labels) i_ ∨ (AV.idsL ((fS v_2.Labels) i_) = [] ∧ leL (fun _ => none) false ((fS v_2.Labels) i_) ((fS v_2.Labels) i_))) ∧ ((false = true → true = true) ∧ 1 = 1 ∧ v_2.Weights.length = v_2.Weights.length ∧ ∀ i_, i_ < v_2.Weights.length → (fLI true v_2.Weights) i_ = (fLI false v_2.Weights) i_ ∨ (AV.idsL ((fLI false v_2.Weights) i_) = [] ∧ leL (fun _ => none) false ((fLI true v_2.Weights) i_) ((fLI false v_2.Weights) i_))) ∧ ([] : List AV) = []) ∧ ((false = true → true = true) ∧ 2 = 2 ∧ sm_3.length = sm_3.length ∧ ∀ i_, i_ < sm_3.length → (fSample true sm_3) i_ = (fSample false sm_3) i_ ∨ (AV.idsL ((fSample false sm_3) i_) = [] ∧ leL (fun _ => none) false ((fSample true sm_3) i_) ((fSample false sm_3) i_))) ∧ True] ⟨⟨hc4, ⟨⟨(fun h => by cases h), rfl, rfl, fun i _ => .inl rfl⟩, ⟨⟨(fun h => by cases h), rfl, rfl, fun i _ => .inr ⟨idsLI _ _, leLI _ _ _⟩⟩, rfl⟩⟩, ⟨(fun h => by cases h), rfl, rfl, fun i _ => .inr ⟨idsSample _ _, leSample _ _ _⟩⟩, trivial⟩, trivial⟩ ?_
    refine xe_then ?_
    refine xR [] [2] [2, 7001, 9203, 9221, 9222] [.ref 2 0] [some (.box [.arr 9221, .arr 9222]), some (bxl00Src s'_3), some (.fam ws_4.length 1 (mLI ws_4) (gLI ws_4)), some (.arr 1 ls_4.length (fS ls_4)), some (.oar [9203] 1 ws_4.length (oLI 9203 ws_4))] [] trivial ?_
    refine x_ret ?_
    refine xe_weak [(9231, 9221), (9232, 9222)] (T := [(2, .ref 2 0)]) (O := [(2, .box [.arr 9231, .arr 9232]), (7001, bxl00Src s'_3), (9203, .fam ws_4.length 1 (mLI ws_4) (gLI ws_4)), (9231, .arr 1 ls_4.length (fS ls_4)), (9232, .oar [9203] 1 ws_4.length (oLI 9203 ws_4))]) rfl (⟨.inl rfl, trivial⟩) (⟨.inl rfl, .inl rfl, .inl rfl, .inl rfl, .inl rfl, trivial⟩) ?_
    refine xe_end (s'_3, ls_4, ws_4) (show (okSrc s'_3) ∧ (s'_3.code = s.code) ∧ (s.atx + 0 ≤ s'_3.atx ∧ s'_3.atx ≤ s.atx + 900) ∧ (okPerc (Perceptron.mk ls_4 ws_4) = true) ∧ (True) from ⟨(by first | omega | assumption | exact hen.2.1 | (simp_all; done)), (by first | omega | assumption | exact hen.2.1 | (simp_all; done)), (by first | omega | assumption | exact hen.2.1 | (simp_all; done)), (by first | omega | assumption | exact hen.2.1 | (simp_all; done)), trivial⟩) (⟨.inl rfl, .inl rfl, .inl rfl, .inl rfl, trivial⟩) (.agg [.arr 9231, .arr 9232]) (by kernel_rfl) (.inl rfl) (fun h => by cases h) (fun h => by cases h)
  obtain ⟨⟨s', ls, ws⟩, ⟨hh0, hh1, hh2, hh3, _⟩, hc⟩ := hh
  exact ⟨s', ls, ws, hh0, hh1, hh2, hh3, hc⟩


-- spec.l00Src).text
theorem text_ok (s : l00Src) (list : List ByteArray) (hs : okSrc s) (ha : s.atx ≤ 3999999999999999980) (hl : (0 < list.length ∧ list.length ≤ 1000) ∧ ∀ z ∈ list, z.size ≤ 16) : ∃ (v : ByteArray) (s' : l00Src), (v.size ≤ 16) ∧ (okSrc s') ∧ (s'.code = s.code) ∧ (s.atx + 0 ≤ s'.atx ∧ s'.atx ≤ s.atx + 2) ∧ (v ∈ list) ∧ CallOK Try.prog 66 [.ref 7001 0, slS false list] (lookO [(7001, bxl00Src s)]) true (Sv v) (lookO [(7001, bxl00Src s')]) := by
  have hh : ∃ r : ByteArray × l00Src, ((r.1.size ≤ 16) ∧ (okSrc r.2) ∧ (r.2.code = s.code) ∧ (s.atx + 0 ≤ r.2.atx ∧ r.2.atx ≤ s.atx + 2) ∧ (r.1 ∈ list) ∧ (True)) ∧ CallOK Try.prog 66 [.ref 7001 0, slS false list] (lookO [(7001, bxl00Src s)]) true (Sv r.1) (lookO [(7001, bxl00Src r.2)]) := by
    refine fn_okX (Φ := fun r : ByteArray × l00Src => (r.1.size ≤ 16) ∧ (okSrc r.2) ∧ (r.2.code = s.code) ∧ (s.atx + 0 ≤ r.2.atx ∧ r.2.atx ≤ s.atx + 2) ∧ (r.1 ∈ list) ∧ (True)) [(7001, bxl00Src s)] (fun r => [(7001, bxl00Src r.2)]) (fn := Try.f66) (nt := 12) Try.func66 rfl rfl (args := [.ref 7001 0, slS false list]) rfl (allcons (.inr trivial) (allcons (.inl ⟨rfl, tagS false _⟩) allnil)) (res := fun r => Sv r.1) ?_
    refine xR [] [0, 1] [7001] [.ref 7001 0, slS false list] [some (bxl00Src s)] [] trivial ?_
    refine x_seq ?_
    obtain ⟨v_1, s'_1, hx1_0, hx1_1, hx1_2, hx1_3, hc1⟩ := pick_ok s (list.length : Int) (by first | assumption | (simp only [okSrc] at *; simp_all; done)) (by omega)
    refine x_r [(4, .lend [(7001, bxl00Src s, bxl00Src s'_1)] [] [(true, .any), (true, .any)] true (I v_1))] [4] [7001] [Sv (at_ list v_1.toNat)] [some (bxl00Src s'_1)] [CallOK Try.prog 32 [.ref 7001 0, I (list.length : Int)] (lookO [(7001, bxl00Src s)]) true (I v_1) (lookO [(7001, bxl00Src s'_1)]) ∧ (((bxl00Src s : Ob) = bxl00Src s ∨ obLe noOb true (bxl00Src s) (bxl00Src s)) ∧ taggedO false (bxl00Src s)) ∧ True, (0 : Int) ≤ v_1 ∧ v_1 < (list.length : Int)] ⟨⟨hc1, ⟨.inl rfl, (by simp [taggedO, taggedL, tagged, tagU8])⟩, trivial⟩, ⟨(by omega), (by omega)⟩, trivial⟩ ?_
    refine xe_then ?_
    refine x_ret ?_
    refine xe_end ((at_ list v_1.toNat), s'_1) (show ((at_ list v_1.toNat).size ≤ 16) ∧ (okSrc s'_1) ∧ (s'_1.code = s.code) ∧ (s.atx + 0 ≤ s'_1.atx ∧ s'_1.atx ≤ s.atx + 2) ∧ ((at_ list v_1.toNat) ∈ list) ∧ (True) from ⟨(by first | omega | rfl | assumption | (dsimp only; first | omega | rfl | assumption) | (simp only [*]; done) | (exact at_mem (by omega)) | (exact hl.2 _ (at_mem (by omega))) | (simp_all; done)), (by first | omega | rfl | assumption | (dsimp only; first | omega | rfl | assumption) | (simp only [*]; done) | (exact at_mem (by omega)) | (exact hl.2 _ (at_mem (by omega))) | (simp_all; done)), (by first | omega | rfl | assumption | (dsimp only; first | omega | rfl | assumption) | (simp only [*]; done) | (exact at_mem (by omega)) | (exact hl.2 _ (at_mem (by omega))) | (simp_all; done)), (by first | omega | rfl | assumption | (dsimp only; first | omega | rfl | assumption) | (simp only [*]; done) | (exact at_mem (by omega)) | (exact hl.2 _ (at_mem (by omega))) | (simp_all; done)), (by first | omega | rfl | assumption | (dsimp only; first | omega | rfl | assumption) | (simp only [*]; done) | (exact at_mem (by omega)) | (exact hl.2 _ (at_mem (by omega))) | (simp_all; done)), trivial⟩) (⟨.inl rfl, trivial⟩) (Sv (at_ list v_1.toNat)) (by kernel_rfl) (.inl rfl) (fun _ => rfl) (fun _ => trivial)
  obtain ⟨⟨v, s'⟩, ⟨hh0, hh1, hh2, hh3, hh4, _⟩, hc⟩ := hh
  exact ⟨v, s', hh0, hh1, hh2, hh3, hh4, hc⟩


-- spec.l00Src).among
theorem among_ok (s : l00Src) (list : List Int) (hs : okSrc s) (ha : s.atx ≤ 3999999999999999980) (hl : 0 < list.length ∧ list.length ≤ 1000) : ∃ (v : Int) (s' : l00Src), (v ∈ list) ∧ (okSrc s') ∧ (s'.code = s.code) ∧ (s.atx + 0 ≤ s'.atx ∧ s'.atx ≤ s.atx + 2) ∧ CallOK Try.prog 58 [.ref 7001 0, slI false list] (lookO [(7001, bxl00Src s)]) true (I v) (lookO [(7001, bxl00Src s')]) := by
  have hh : ∃ r : Int × l00Src, ((r.1 ∈ list) ∧ (okSrc r.2) ∧ (r.2.code = s.code) ∧ (s.atx + 0 ≤ r.2.atx ∧ r.2.atx ≤ s.atx + 2) ∧ (True)) ∧ CallOK Try.prog 58 [.ref 7001 0, slI false list] (lookO [(7001, bxl00Src s)]) true (I r.1) (lookO [(7001, bxl00Src r.2)]) := by
    refine fn_okX (Φ := fun r : Int × l00Src => (r.1 ∈ list) ∧ (okSrc r.2) ∧ (r.2.code = s.code) ∧ (s.atx + 0 ≤ r.2.atx ∧ r.2.atx ≤ s.atx + 2) ∧ (True)) [(7001, bxl00Src s)] (fun r => [(7001, bxl00Src r.2)]) (fn := Try.f58) (nt := 12) Try.func58 rfl rfl (args := [.ref 7001 0, slI false list]) rfl (allcons (.inr trivial) (allcons (.inl ⟨rfl, tagI false _⟩) allnil)) (res := fun r => I r.1) ?_
    refine xR [] [0, 1] [7001] [.ref 7001 0, slI false list] [some (bxl00Src s)] [] trivial ?_
    refine x_seq ?_
    obtain ⟨v_1, s'_1, hx1_0, hx1_1, hx1_2, hx1_3, hc1⟩ := pick_ok s (list.length : Int) (by first | assumption | (simp only [okSrc] at *; simp_all; done)) (by omega)
    refine x_r [(4, .lend [(7001, bxl00Src s, bxl00Src s'_1)] [] [(true, .any), (true, .any)] true (I v_1))] [4] [7001] [I (at_ list v_1.toNat)] [some (bxl00Src s'_1)] [CallOK Try.prog 32 [.ref 7001 0, I (list.length : Int)] (lookO [(7001, bxl00Src s)]) true (I v_1) (lookO [(7001, bxl00Src s'_1)]) ∧ (((bxl00Src s : Ob) = bxl00Src s ∨ obLe noOb true (bxl00Src s) (bxl00Src s)) ∧ taggedO false (bxl00Src s)) ∧ True, (0 : Int) ≤ v_1 ∧ v_1 < (list.length : Int)] ⟨⟨hc1, ⟨.inl rfl, (by simp [taggedO, taggedL, tagged, tagU8])⟩, trivial⟩, ⟨(by omega), (by omega)⟩, trivial⟩ ?_
    refine xe_then ?_
    refine x_ret ?_
    refine xe_end ((at_ list v_1.toNat), s'_1) (show ((at_ list v_1.toNat) ∈ list) ∧ (okSrc s'_1) ∧ (s'_1.code = s.code) ∧ (s.atx + 0 ≤ s'_1.atx ∧ s'_1.atx ≤ s.atx + 2) ∧ (True) from ⟨(by first | omega | rfl | assumption | (dsimp only; first | omega | rfl | assumption) | (simp only [*]; done) | (exact at_mem (by omega)) | (simp_all; done)), (by first | omega | rfl | assumption | (dsimp only; first | omega | rfl | assumption) | (simp only [*]; done) | (exact at_mem (by omega)) | (simp_all; done)), (by first | omega | rfl | assumption | (dsimp only; first | omega | rfl | assumption) | (simp only [*]; done) | (exact at_mem (by omega)) | (simp_all; done)), (by first | omega | rfl | assumption | (dsimp only; first | omega | rfl | assumption) | (simp only [*]; done) | (exact at_mem (by omega)) | (simp_all; done)), trivial⟩) (⟨.inl rfl, trivial⟩) (I (at_ list v_1.toNat)) (by kernel_rfl) (.inl rfl) (fun _ => rfl) (fun _ => trivial)
  obtain ⟨⟨v, s'⟩, ⟨hh0, hh1, hh2, hh3, _⟩, hc⟩ := hh
  exact ⟨v, s', hh0, hh1, hh2, hh3, hc⟩


theorem oupdLI {ob : Nat → Option Ob} {fr : Bool} (xs : List (List Int)) (k : Nat) (y : List Int) {cs : List AV} (h : leL ob true cs (cLI fr y)) : ∀ i, i < (xs.set k y).length → AV.idsL (fLI fr (xs.set k y) i) = [] ∧ leL ob true ((fun q => bif Nat.beq q k then cs else fLI true xs q) i) (fLI fr (xs.set k y) i) := by
  intro i hi
  rw [List.length_set] at hi
  by_cases e : i = k
  · subst e
    have e2 : fLI fr (xs.set i y) i = cLI fr y := by show cLI fr (at_ _ _) = _; rw [at_set_eq hi]
    rw [e2]
    refine ⟨rfl, ?_⟩
    show leL ob true (bif Nat.beq i i then cs else _) _
    rw [Nat.beq_refl, cond_true]; exact h
  · have e2 : fLI fr (xs.set k y) i = cLI fr (at_ xs i) := by show cLI fr (at_ _ _) = _; rw [at_set_ne e]
    rw [e2]
    refine ⟨rfl, ?_⟩
    show leL ob true (bif Nat.beq i k then cs else fLI true xs i) _
    rw [beq_ne e, cond_false]
    exact And.intro (And.intro (fun _ => rfl) (And.intro rfl (And.intro rfl (fun i _ => .inl rfl)))) rfl

-- spec.l12Bent
theorem l12Bent_ok (s : l00Src) (hs : okSrc s) (ha : s.atx ≤ 3999999999999994000) : ∃ (v : Perceptron) (s' : l00Src), (okSrc s') ∧ (s'.code = s.code) ∧ (s.atx + 0 ≤ s'.atx ∧ s'.atx ≤ s.atx + 1000) ∧ (drP v) ∧ CallOK Try.prog 29 [.ref 7001 0] (lookO [(7001, bxl00Src s)]) true (agPerceptronT v) (lookO [(7001, bxl00Src s')]) := by
  have hh : ∃ r : Perceptron × l00Src, ((okSrc r.2) ∧ (r.2.code = s.code) ∧ (s.atx + 0 ≤ r.2.atx ∧ r.2.atx ≤ s.atx + 1000) ∧ (drP r.1) ∧ (True)) ∧ CallOK Try.prog 29 [.ref 7001 0] (lookO [(7001, bxl00Src s)]) true (agPerceptronT r.1) (lookO [(7001, bxl00Src r.2)]) := by
    refine fn_okX (Φ := fun r : Perceptron × l00Src => (okSrc r.2) ∧ (r.2.code = s.code) ∧ (s.atx + 0 ≤ r.2.atx ∧ r.2.atx ≤ s.atx + 1000) ∧ (drP r.1) ∧ (True)) [(7001, bxl00Src s)] (fun r => [(7001, bxl00Src r.2)]) (fn := Try.f29) (nt := 74) Try.func29 rfl rfl (args := [.ref 7001 0]) rfl (allcons (.inr trivial) allnil) (res := fun r => agPerceptronT r.1) ?_
    refine xR [(0, .new 2)] [0, 2] [2, 7001] [.ref 7001 0, .ref 2 0] [some (.box [nilA, nilA]), some (bxl00Src s)] [] trivial ?_
    refine x_seq ?_
    obtain ⟨s'_1, ls_1, ws_1, hx1_0, hx1_1, hx1_2, hx1_3, hc1⟩ := l12Draw_ok s (by first | assumption | (simp only [okSrc] at *; simp_all; done)) (by omega)
    have hok := hx1_3
    have hpn : 1 ≤ ls_1.length ∧ ls_1.length ≤ 12 ∧ ws_1.length = ls_1.length := okP_n hok
    have hr0 : (at_ ws_1 0).length = 25 := (okRows_at (okPerc_iff.1 hok).2.2 (j := 0) (by show 0 < ws_1.length; omega)).1
    refine x_r [(1, .lend [(7001, bxl00Src s, bxl00Src s'_1)] [(9231, .arr 1 ls_1.length (fS ls_1)), (9203, .fam ws_1.length 1 (mLI ws_1) (gLI ws_1)), (9232, .oar [9203] 1 ws_1.length (oLI 9203 ws_1))] [(true, .any)] false (.agg [.arr 9231, .arr 9232])), (2, .new 3)] [0, 2, 3] [2, 3, 7001, 9203, 9231, 9232] [.ref 7001 0, .ref 2 0, .ref 3 0] [some (.box [nilA, nilA]), some (.box [.arr 9231, .arr 9232]), some (bxl00Src s'_1), some (.fam ws_1.length 1 (mLI ws_1) (gLI ws_1)), some (.arr 1 ls_1.length (fS ls_1)), some (.oar [9203] 1 ws_1.length (oLI 9203 ws_1))] [CallOK Try.prog 51 [.ref 7001 0] (lookO [(7001, bxl00Src s)]) false (.agg [.arr 9231, .arr 9232]) (lookO [(7001, bxl00Src s'_1), (9231, .arr 1 ls_1.length (fS ls_1)), (9203, .fam ws_1.length 1 (mLI ws_1) (gLI ws_1)), (9232, .oar [9203] 1 ws_1.length (oLI 9203 ws_1))]) ∧ (((bxl00Src s : Ob) = bxl00Src s ∨ obLe noOb true (bxl00Src s) (bxl00Src s)) ∧ taggedO false (bxl00Src s)) ∧ True] ⟨⟨hc1, ⟨.inl rfl, (by simp [taggedO, taggedL, tagged, tagU8])⟩, trivial⟩, trivial⟩ ?_
    refine xe_then ?_
    refine x_seq ?_
    refine x_seq ?_
    obtain ⟨v_2, s'_2, hx2_0, hx2_1, hx2_2, hx2_3, hc2⟩ := pick_ok s'_1 24 (by first | assumption | (simp only [okSrc] at *; simp_all; done)) (by omega)
    refine x_r [(1, .lend [(7001, bxl00Src s'_1, bxl00Src s'_2)] [] [(true, .any), (true, .any)] true (I v_2))] [0, 2, 3, 9] [2, 3, 7001, 9203, 9231, 9232] [.ref 7001 0, .ref 2 0, .ref 3 0, I v_2] [some (.box [nilA, nilA]), some (.box [.arr 9231, .arr 9232]), some (bxl00Src s'_2), some (.fam ws_1.length 1 (mLI ws_1) (gLI ws_1)), some (.arr 1 ls_1.length (fS ls_1)), some (.oar [9203] 1 ws_1.length (oLI 9203 ws_1))] [CallOK Try.prog 32 [.ref 7001 0, I 24] (lookO [(7001, bxl00Src s'_1)]) true (I v_2) (lookO [(7001, bxl00Src s'_2)]) ∧ (((bxl00Src s'_1 : Ob) = bxl00Src s'_1 ∨ obLe noOb true (bxl00Src s'_1) (bxl00Src s'_1)) ∧ taggedO false (bxl00Src s'_1)) ∧ True] ⟨⟨hc2, ⟨.inl rfl, (by simp [taggedO, taggedL, tagged, tagU8])⟩, trivial⟩, trivial⟩ ?_
    refine xe_then ?_
    refine x_block ?_
    refine x_seq ?_
    by_cases h1 : v_2 = 0
    ·refine x_r [(0, .dec true)] [0, 2, 3, 9, 10] [2, 3, 7001, 9203, 9231, 9232] [.ref 7001 0, .ref 2 0, .ref 3 0, I v_2, Bv true] [some (.box [nilA, nilA]), some (.box [.arr 9231, .arr 9232]), some (bxl00Src s'_2), some (.fam ws_1.length 1 (mLI ws_1) (gLI ws_1)), some (.arr 1 ls_1.length (fS ls_1)), some (.oar [9203] 1 ws_1.length (oLI 9203 ws_1))] [v_2 = 0] ⟨h1, trivial⟩ ?_
     refine xe_then ?_
     refine x_true rfl ?_
     obtain ⟨v_3, s'_3, hx3_0, hx3_1, hx3_2, hx3_3, hx3_4, hc3⟩ := text_ok s'_2 ([(⟨#[]⟩ : ByteArray), (⟨#[122, 122]⟩ : ByteArray), (⟨#[48]⟩ : ByteArray)]) (by first | assumption | (simp only [okSrc] at *; simp_all; done)) (by omega) (by decide)
     have htz := hx3_0
     refine x_r [(3, .new 15), (4, .lend [(7001, bxl00Src s'_2, bxl00Src s'_3)] [] [(true, .any), (false, slS false ([(⟨#[]⟩ : ByteArray), (⟨#[122, 122]⟩ : ByteArray), (⟨#[48]⟩ : ByteArray)]))] true (Sv v_3))] [2, 3] [2, 3, 7001, 9203, 9231, 9232] [.ref 2 0, .ref 3 0] [some (.box [nilA, nilA]), some (.box [.arr 9231, .arr 9232]), some (bxl00Src s'_3), some (.fam ws_1.length 1 (mLI ws_1) (gLI ws_1)), some (.arr 1 ls_1.length (fun q => bif Nat.beq q 0 then [Sv v_3] else (fS ls_1) q)), some (.oar [9203] 1 ws_1.length (oLI 9203 ws_1))] [CallOK Try.prog 66 [.ref 7001 0, slS false ([(⟨#[]⟩ : ByteArray), (⟨#[122, 122]⟩ : ByteArray), (⟨#[48]⟩ : ByteArray)])] (lookO [(7001, bxl00Src s'_2)]) true (Sv v_3) (lookO [(7001, bxl00Src s'_3)]) ∧ ((false = true → true = true) ∧ 1 = 1 ∧ 3 = (([(⟨#[]⟩ : ByteArray), (⟨#[122, 122]⟩ : ByteArray), (⟨#[48]⟩ : ByteArray)]).length) ∧ ∀ i_, i_ < (([(⟨#[]⟩ : ByteArray), (⟨#[122, 122]⟩ : ByteArray), (⟨#[48]⟩ : ByteArray)]).length) → (litF [Sv (⟨#[]⟩ : ByteArray), Sv (⟨#[122, 122]⟩ : ByteArray), Sv (⟨#[48]⟩ : ByteArray)] 1) i_ = (fS ([(⟨#[]⟩ : ByteArray), (⟨#[122, 122]⟩ : ByteArray), (⟨#[48]⟩ : ByteArray)])) i_ ∨ (AV.idsL ((fS ([(⟨#[]⟩ : ByteArray), (⟨#[122, 122]⟩ : ByteArray), (⟨#[48]⟩ : ByteArray)])) i_) = [] ∧ leL (fun _ => none) false ((litF [Sv (⟨#[]⟩ : ByteArray), Sv (⟨#[122, 122]⟩ : ByteArray), Sv (⟨#[48]⟩ : ByteArray)] 1) i_) ((fS ([(⟨#[]⟩ : ByteArray), (⟨#[122, 122]⟩ : ByteArray), (⟨#[48]⟩ : ByteArray)])) i_))) ∧ (((bxl00Src s'_2 : Ob) = bxl00Src s'_2 ∨ obLe noOb true (bxl00Src s'_2) (bxl00Src s'_2)) ∧ taggedO false (bxl00Src s'_2)) ∧ True, (0 : Int) ≤ 0 ∧ 0 < (ls_1.length : Int), 0 < ls_1.length] ⟨⟨hc3, ⟨(fun h => by cases h), rfl, (by first | rfl | (simp; done) | (simp; omega) | omega), fun i_ hi_ => .inl (match i_, hi_ with | 0, _ => rfl | 1, _ => rfl | 2, _ => rfl | (i + 3), h => absurd h (by simp))⟩, ⟨.inl rfl, (by simp [taggedO, taggedL, tagged, tagU8])⟩, trivial⟩, ⟨(by omega), (by omega)⟩, (by omega), trivial⟩ ?_
     refine xe_block 0 ?_
     refine xe_then ?_
     refine xR [] [2] [2, 7001, 9203, 9231, 9232] [.ref 2 0] [some (.box [.arr 9231, .arr 9232]), some (bxl00Src s'_3), some (.fam ws_1.length 1 (mLI ws_1) (gLI ws_1)), some (.arr 1 ls_1.length (fun q => bif Nat.beq q 0 then [Sv v_3] else (fS ls_1) q)), some (.oar [9203] 1 ws_1.length (oLI 9203 ws_1))] [] trivial ?_
     refine x_ret ?_
     refine xe_end ((Perceptron.mk (ls_1.set 0 v_3) ws_1), s'_3) (show (okSrc s'_3) ∧ (s'_3.code = s.code) ∧ (s.atx + 0 ≤ s'_3.atx ∧ s'_3.atx ≤ s.atx + 1000) ∧ (drP (Perceptron.mk (ls_1.set 0 v_3) ws_1)) ∧ (True) from ⟨(by first | omega | assumption | rfl | exact hs0.1 | exact hs0.2.1 | (simp only [*]; done) | exact okP_dr hok | exact drP_l (okP_dr hok) (by assumption) | exact drP_w (okP_dr hok) (by simp) | exact ⟨by show ls.length ≤ 20; omega, hsz, by show ws.length ≤ 20; omega⟩), (by first | omega | assumption | rfl | exact hs0.1 | exact hs0.2.1 | (simp only [*]; done) | exact okP_dr hok | exact drP_l (okP_dr hok) (by assumption) | exact drP_w (okP_dr hok) (by simp) | exact ⟨by show ls.length ≤ 20; omega, hsz, by show ws.length ≤ 20; omega⟩), (by first | omega | assumption | rfl | exact hs0.1 | exact hs0.2.1 | (simp only [*]; done) | exact okP_dr hok | exact drP_l (okP_dr hok) (by assumption) | exact drP_w (okP_dr hok) (by simp) | exact ⟨by show ls.length ≤ 20; omega, hsz, by show ws.length ≤ 20; omega⟩), (by first | omega | assumption | rfl | exact hs0.1 | exact hs0.2.1 | (simp only [*]; done) | exact okP_dr hok | exact drP_l (okP_dr hok) (by assumption) | exact drP_w (okP_dr hok) (by simp) | exact ⟨by show ls.length ≤ 20; omega, hsz, by show ws.length ≤ 20; omega⟩), trivial⟩) (⟨.inl rfl, trivial⟩) (.agg [.arr 9231, .arr 9232]) (by kernel_rfl) (.inr ⟨⟨(fun _ => rfl), rfl, (by first | rfl | (simp; done) | (simp; omega) | omega), fun i_ hi_ => .inl (upd_enc (enc := cS) rfl i_ hi_)⟩, ⟨⟨(fun _ => rfl), rfl, rfl, oleLI _ _ rfl⟩, rfl⟩⟩) (fun _ => rfl) (fun _ => (by simp [tagged, taggedL, tagLI, tagS]))
    refine x_r [(0, .dec false)] [0, 2, 3, 9, 10] [2, 3, 7001, 9203, 9231, 9232] [.ref 7001 0, .ref 2 0, .ref 3 0, I v_2, Bv false] [some (.box [nilA, nilA]), some (.box [.arr 9231, .arr 9232]), some (bxl00Src s'_2), some (.fam ws_1.length 1 (mLI ws_1) (gLI ws_1)), some (.arr 1 ls_1.length (fS ls_1)), some (.oar [9203] 1 ws_1.length (oLI 9203 ws_1))] [¬ (v_2 = 0)] ⟨h1, trivial⟩ ?_
    refine xe_then ?_
    refine x_false rfl ?_
    refine x_seq ?_
    by_cases h2 : v_2 = 1
    ·refine x_r [(0, .dec true)] [0, 2, 3, 9, 18] [2, 3, 7001, 9203, 9231, 9232] [.ref 7001 0, .ref 2 0, .ref 3 0, I v_2, Bv true] [some (.box [nilA, nilA]), some (.box [.arr 9231, .arr 9232]), some (bxl00Src s'_2), some (.fam ws_1.length 1 (mLI ws_1) (gLI ws_1)), some (.arr 1 ls_1.length (fS ls_1)), some (.oar [9203] 1 ws_1.length (oLI 9203 ws_1))] [v_2 = 1] ⟨h2, trivial⟩ ?_
     refine xe_then ?_
     refine x_true rfl ?_
     refine x_weak [] (T := [(0, .ref 7001 0), (2, .ref 2 0), (3, .ref 3 0), (9, I v_2), (18, Bv true)]) (O := [(2, .box [nilA, nilA]), (3, .box [slS true ls_1, slLI true ws_1]), (7001, bxl00Src s'_2)]) rfl (⟨.inl rfl, .inl rfl, .inl rfl, .inl rfl, .inl rfl, trivial⟩) (⟨.inl rfl, .inr ⟨⟨(fun _ => rfl), rfl, rfl, fun i _ => .inl rfl⟩, ⟨⟨(fun _ => rfl), rfl, rfl, oleLI _ _ rfl⟩, rfl⟩⟩, .inl rfl, trivial⟩) ?_
     refine x_r [] [2, 3] [2, 3, 7001] [.ref 2 0, .ref 3 0] [some (.box [nilA, nilA]), some (.box [slS true ls_1, .sl true 1 ((ws_1.length : Int).toNat - 1) (cutF 1 (fLI true ws_1))]), some (bxl00Src s'_2)] [(0 : Int) ≤ 1 ∧ (1 : Int) ≤ (ws_1.length : Int) ∧ (ws_1.length : Int) ≤ (ws_1.length : Int)] ⟨⟨(by omega), (by omega), (by omega)⟩, trivial⟩ ?_
     refine xe_block 0 ?_
     refine xe_then ?_
     refine xR [] [2] [2, 7001] [.ref 2 0] [some (.box [slS true ls_1, .sl true 1 ((ws_1.length : Int).toNat - 1) (cutF 1 (fLI true ws_1))]), some (bxl00Src s'_2)] [] trivial ?_
     refine x_ret ?_
     refine xe_end ((Perceptron.mk ls_1 (ws_1.drop 1)), s'_2) (show (okSrc s'_2) ∧ (s'_2.code = s.code) ∧ (s.atx + 0 ≤ s'_2.atx ∧ s'_2.atx ≤ s.atx + 1000) ∧ (drP (Perceptron.mk ls_1 (ws_1.drop 1))) ∧ (True) from ⟨(by first | omega | assumption | rfl | exact hs0.1 | exact hs0.2.1 | (simp only [*]; done) | exact okP_dr hok | exact drP_l (okP_dr hok) (by assumption) | exact drP_w (okP_dr hok) (by simp) | exact ⟨by show ls.length ≤ 20; omega, hsz, by show ws.length ≤ 20; omega⟩), (by first | omega | assumption | rfl | exact hs0.1 | exact hs0.2.1 | (simp only [*]; done) | exact okP_dr hok | exact drP_l (okP_dr hok) (by assumption) | exact drP_w (okP_dr hok) (by simp) | exact ⟨by show ls.length ≤ 20; omega, hsz, by show ws.length ≤ 20; omega⟩), (by first | omega | assumption | rfl | exact hs0.1 | exact hs0.2.1 | (simp only [*]; done) | exact okP_dr hok | exact drP_l (okP_dr hok) (by assumption) | exact drP_w (okP_dr hok) (by simp) | exact ⟨by show ls.length ≤ 20; omega, hsz, by show ws.length ≤ 20; omega⟩), (by first | omega | assumption | rfl | exact hs0.1 | exact hs0.2.1 | (simp only [*]; done) | exact okP_dr hok | exact drP_l (okP_dr hok) (by assumption) | exact drP_w (okP_dr hok) (by simp) | exact ⟨by show ls.length ≤ 20; omega, hsz, by show ws.length ≤ 20; omega⟩), trivial⟩) (⟨.inl rfl, trivial⟩) (.agg [slS true ls_1, .sl true 1 ((ws_1.length : Int).toNat - 1) (cutF 1 (fLI true ws_1))]) (by kernel_rfl) (.inr ⟨⟨(fun _ => rfl), rfl, rfl, fun i _ => .inl rfl⟩, ⟨⟨(fun _ => rfl), rfl, (by first | rfl | (simp; done) | (simp; omega) | omega), fun i_ hi_ => .inl (cut_drop (enc := (cLI true)) hi_)⟩, rfl⟩⟩) (fun _ => rfl) (fun _ => (by simp [tagged, taggedL, tagLI, tagS]))
    refine x_r [(0, .dec false)] [0, 2, 3, 9, 18] [2, 3, 7001, 9203, 9231, 9232] [.ref 7001 0, .ref 2 0, .ref 3 0, I v_2, Bv false] [some (.box [nilA, nilA]), some (.box [.arr 9231, .arr 9232]), some (bxl00Src s'_2), some (.fam ws_1.length 1 (mLI ws_1) (gLI ws_1)), some (.arr 1 ls_1.length (fS ls_1)), some (.oar [9203] 1 ws_1.length (oLI 9203 ws_1))] [¬ (v_2 = 1)] ⟨h2, trivial⟩ ?_
    refine xe_then ?_
    refine x_false rfl ?_
    refine x_seq ?_
    by_cases h3 : v_2 = 2
    ·refine x_r [(0, .dec true)] [0, 2, 3, 9, 24] [2, 3, 7001, 9203, 9231, 9232] [.ref 7001 0, .ref 2 0, .ref 3 0, I v_2, Bv true] [some (.box [nilA, nilA]), some (.box [.arr 9231, .arr 9232]), some (bxl00Src s'_2), some (.fam ws_1.length 1 (mLI ws_1) (gLI ws_1)), some (.arr 1 ls_1.length (fS ls_1)), some (.oar [9203] 1 ws_1.length (oLI 9203 ws_1))] [v_2 = 2] ⟨h3, trivial⟩ ?_
     refine xe_then ?_
     refine x_true rfl ?_
     refine x_seq ?_
     obtain ⟨v_4, s'_4, hx4_0, hx4_1, hx4_2, hx4_3, hc4⟩ := pick_ok s'_2 25 (by first | assumption | (simp only [okSrc] at *; simp_all; done)) (by omega)
     refine x_r [(1, .lend [(7001, bxl00Src s'_2, bxl00Src s'_4)] [] [(true, .any), (true, .any)] true (I v_4))] [0, 2, 3, 4] [2, 3, 7001, 9203, 9231, 9232] [.ref 7001 0, .ref 2 0, .ref 3 0, I v_4] [some (.box [nilA, nilA]), some (.box [.arr 9231, .arr 9232]), some (bxl00Src s'_4), some (.fam ws_1.length 1 (mLI ws_1) (gLI ws_1)), some (.arr 1 ls_1.length (fS ls_1)), some (.oar [9203] 1 ws_1.length (oLI 9203 ws_1))] [CallOK Try.prog 32 [.ref 7001 0, I 25] (lookO [(7001, bxl00Src s'_2)]) true (I v_4) (lookO [(7001, bxl00Src s'_4)]) ∧ (((bxl00Src s'_2 : Ob) = bxl00Src s'_2 ∨ obLe noOb true (bxl00Src s'_2) (bxl00Src s'_2)) ∧ taggedO false (bxl00Src s'_2)) ∧ True] ⟨⟨hc4, ⟨.inl rfl, (by simp [taggedO, taggedL, tagged, tagU8])⟩, trivial⟩, trivial⟩ ?_
     refine xe_then ?_
     obtain ⟨v_5, s'_5, hx5_0, hx5_1, hx5_2, hx5_3, hc5⟩ := among_ok s'_4 ([(-1000001), (-1000000), 1000000, 1000001]) (by first | assumption | (simp only [okSrc] at *; simp_all; done)) (by omega) (by simp)
     refine x_r [(6, .new 34), (7, .lend [(7001, bxl00Src s'_4, bxl00Src s'_5)] [] [(true, .any), (false, slI false ([(-1000001), (-1000000), 1000000, 1000001]))] true (I v_5))] [2, 3] [2, 3, 7001, 9203, 9231, 9232] [.ref 2 0, .ref 3 0] [some (.box [nilA, nilA]), some (.box [.arr 9231, .arr 9232]), some (bxl00Src s'_5), some (.fam ws_1.length 1 (mLI ws_1) (fun q => bif Nat.beq q 0 then (fun q => bif Nat.beq q v_4.toNat then [I v_5] else (gLI ws_1) 0 q) else (gLI ws_1) q)), some (.arr 1 ls_1.length (fS ls_1)), some (.oar [9203] 1 ws_1.length (oLI 9203 ws_1))] [(0 : Int) ≤ 0 ∧ 0 < (ws_1.length : Int), 0 < ws_1.length, CallOK Try.prog 58 [.ref 7001 0, slI false ([(-1000001), (-1000000), 1000000, 1000001])] (lookO [(7001, bxl00Src s'_4)]) true (I v_5) (lookO [(7001, bxl00Src s'_5)]) ∧ ((false = true → true = true) ∧ 1 = 1 ∧ 4 = (([(-1000001), (-1000000), 1000000, 1000001]).length) ∧ ∀ i_, i_ < (([(-1000001), (-1000000), 1000000, 1000001]).length) → (litF [I (-1000001), I (-1000000), I 1000000, I 1000001] 1) i_ = (fI ([(-1000001), (-1000000), 1000000, 1000001])) i_ ∨ (AV.idsL ((fI ([(-1000001), (-1000000), 1000000, 1000001])) i_) = [] ∧ leL (fun _ => none) false ((litF [I (-1000001), I (-1000000), I 1000000, I 1000001] 1) i_) ((fI ([(-1000001), (-1000000), 1000000, 1000001])) i_))) ∧ (((bxl00Src s'_4 : Ob) = bxl00Src s'_4 ∨ obLe noOb true (bxl00Src s'_4) (bxl00Src s'_4)) ∧ taggedO false (bxl00Src s'_4)) ∧ True, 0 < ws_1.length ∧ (0 : Int) ≤ v_4 ∧ v_4 < (((at_ ws_1 0).length) : Int), 0 < ws_1.length ∧ v_4.toNat < (at_ ws_1 0).length] ⟨⟨(by omega), (by omega)⟩, (by omega), ⟨hc5, ⟨(fun h => by cases h), rfl, (by first | rfl | (simp; done) | (simp; omega) | omega), fun i_ hi_ => .inl (match i_, hi_ with | 0, _ => rfl | 1, _ => rfl | 2, _ => rfl | 3, _ => rfl | (i + 4), h => absurd h (by simp))⟩, ⟨.inl rfl, (by simp [taggedO, taggedL, tagged, tagU8])⟩, trivial⟩, ⟨(by omega), (by omega), (by omega)⟩, ⟨(by omega), (by omega)⟩, trivial⟩ ?_
     refine xe_block 0 ?_
     refine xe_then ?_
     refine x_seq ?_
     refine x_weak [] (T := [(2, .ref 2 0), (3, .ref 3 0)]) (O := [(2, .box [nilA, nilA]), (3, .box [.arr 9231, .arr 9232]), (7001, bxl00Src s'_5), (9203, .fam (ws_1.set 0 ((at_ ws_1 0).set v_4.toNat v_5)).length 1 (mLI (ws_1.set 0 ((at_ ws_1 0).set v_4.toNat v_5))) (gLI (ws_1.set 0 ((at_ ws_1 0).set v_4.toNat v_5)))), (9231, .arr 1 ls_1.length (fS ls_1)), (9232, .oar [9203] 1 ((ws_1.set 0 ((at_ ws_1 0).set v_4.toNat v_5)).length) (oLI 9203 (ws_1.set 0 ((at_ ws_1 0).set v_4.toNat v_5))))]) rfl (⟨.inl rfl, .inl rfl, trivial⟩) (⟨.inl rfl, .inl rfl, .inl rfl, .inr (fsetLI (P := 0) (k := v_4.toNat) ((by omega)) ((by omega)) (by simp only [Nat.beq_refl, cond_true]; try rfl) (by intro i hi; simp only [Nat.beq_refl, cond_true, beq_ne hi, cond_false]; try rfl) (by intro p hp; simp only [beq_ne hp, cond_false])), .inl rfl, .inr ⟨rfl, rfl, (by first | rfl | (simp; done) | omega), fun i_ hi_ => .inl (osetLI 9203 0 ws_1 ((at_ ws_1 0).set v_4.toNat v_5) i_)⟩, trivial⟩) ?_
     refine x_r [] [2] [2, 7001, 9203, 9231, 9232] [.ref 2 0] [some (.box [.arr 9231, .arr 9232]), some (bxl00Src s'_5), some (.fam (ws_1.set 0 ((at_ ws_1 0).set v_4.toNat v_5)).length 1 (mLI (ws_1.set 0 ((at_ ws_1 0).set v_4.toNat v_5))) (gLI (ws_1.set 0 ((at_ ws_1 0).set v_4.toNat v_5)))), some (.arr 1 ls_1.length (fS ls_1)), some (.oar [9203] 1 ((ws_1.set 0 ((at_ ws_1 0).set v_4.toNat v_5)).length) (oLI 9203 (ws_1.set 0 ((at_ ws_1 0).set v_4.toNat v_5))))] [] trivial ?_
     refine xe_then ?_
     refine x_ret ?_
     refine xe_end ((Perceptron.mk ls_1 (ws_1.set 0 ((at_ ws_1 0).set v_4.toNat v_5))), s'_5) (show (okSrc s'_5) ∧ (s'_5.code = s.code) ∧ (s.atx + 0 ≤ s'_5.atx ∧ s'_5.atx ≤ s.atx + 1000) ∧ (drP (Perceptron.mk ls_1 (ws_1.set 0 ((at_ ws_1 0).set v_4.toNat v_5)))) ∧ (True) from ⟨(by first | omega | assumption | rfl | exact hs0.1 | exact hs0.2.1 | (simp only [*]; done) | exact okP_dr hok | exact drP_l (okP_dr hok) (by assumption) | exact drP_w (okP_dr hok) (by simp) | exact ⟨by show ls.length ≤ 20; omega, hsz, by show ws.length ≤ 20; omega⟩), (by first | omega | assumption | rfl | exact hs0.1 | exact hs0.2.1 | (simp only [*]; done) | exact okP_dr hok | exact drP_l (okP_dr hok) (by assumption) | exact drP_w (okP_dr hok) (by simp) | exact ⟨by show ls.length ≤ 20; omega, hsz, by show ws.length ≤ 20; omega⟩), (by first | omega | assumption | rfl | exact hs0.1 | exact hs0.2.1 | (simp only [*]; done) | exact okP_dr hok | exact drP_l (okP_dr hok) (by assumption) | exact drP_w (okP_dr hok) (by simp) | exact ⟨by show ls.length ≤ 20; omega, hsz, by show ws.length ≤ 20; omega⟩), (by first | omega | assumption | rfl | exact hs0.1 | exact hs0.2.1 | (simp only [*]; done) | exact okP_dr hok | exact drP_l (okP_dr hok) (by assumption) | exact drP_w (okP_dr hok) (by simp) | exact ⟨by show ls.length ≤ 20; omega, hsz, by show ws.length ≤ 20; omega⟩), trivial⟩) (⟨.inl rfl, trivial⟩) (.agg [.arr 9231, .arr 9232]) (by kernel_rfl) (.inr ⟨⟨(fun _ => rfl), rfl, rfl, fun i _ => .inl rfl⟩, ⟨⟨(fun _ => rfl), rfl, rfl, oleLI _ _ rfl⟩, rfl⟩⟩) (fun _ => rfl) (fun _ => (by simp [tagged, taggedL, tagLI, tagS]))
    refine x_r [(0, .dec false)] [0, 2, 3, 9, 24] [2, 3, 7001, 9203, 9231, 9232] [.ref 7001 0, .ref 2 0, .ref 3 0, I v_2, Bv false] [some (.box [nilA, nilA]), some (.box [.arr 9231, .arr 9232]), some (bxl00Src s'_2), some (.fam ws_1.length 1 (mLI ws_1) (gLI ws_1)), some (.arr 1 ls_1.length (fS ls_1)), some (.oar [9203] 1 ws_1.length (oLI 9203 ws_1))] [¬ (v_2 = 2)] ⟨h3, trivial⟩ ?_
    refine xe_then ?_
    refine x_false rfl ?_
    refine x_seq ?_
    by_cases h4 : v_2 = 3
    ·refine x_r [(0, .dec true)] [0, 2, 3, 9, 37] [2, 3, 7001, 9203, 9231, 9232] [.ref 7001 0, .ref 2 0, .ref 3 0, I v_2, Bv true] [some (.box [nilA, nilA]), some (.box [.arr 9231, .arr 9232]), some (bxl00Src s'_2), some (.fam ws_1.length 1 (mLI ws_1) (gLI ws_1)), some (.arr 1 ls_1.length (fS ls_1)), some (.oar [9203] 1 ws_1.length (oLI 9203 ws_1))] [v_2 = 3] ⟨h4, trivial⟩ ?_
     refine xe_then ?_
     refine x_true rfl ?_
     refine x_weak [] (T := [(0, .ref 7001 0), (2, .ref 2 0), (3, .ref 3 0), (9, I v_2), (37, Bv true)]) (O := [(2, .box [nilA, nilA]), (3, .box [.arr 9231, .arr 9232]), (7001, bxl00Src s'_2), (9231, .arr 1 ls_1.length (fS ls_1)), (9232, .oar [9203] 1 ws_1.length (fLI true ws_1))]) rfl (⟨.inl rfl, .inl rfl, .inl rfl, .inl rfl, .inl rfl, trivial⟩) (⟨.inl rfl, .inl rfl, .inl rfl, .inl rfl, .inr ⟨rfl, rfl, rfl, fun i hi => .inr (oleLI true _ rfl i hi)⟩, trivial⟩) ?_
     refine x_r [] [2, 3] [2, 3, 7001, 9231, 9232] [.ref 2 0, .ref 3 0] [some (.box [nilA, nilA]), some (.box [.arr 9231, .arr 9232]), some (bxl00Src s'_2), some (.arr 1 ls_1.length (fS ls_1)), some (.oar [9203] 1 ws_1.length (fun q => bif Nat.beq q 0 then [.sl true 1 ((((at_ ws_1 0).length) : Int).toNat - 1) (cutF 1 (fI (at_ ws_1 0)))] else (fLI true ws_1) q))] [(0 : Int) ≤ 0 ∧ 0 < (ws_1.length : Int), 0 < ws_1.length, (0 : Int) ≤ 1 ∧ (1 : Int) ≤ (((at_ ws_1 0).length) : Int) ∧ (((at_ ws_1 0).length) : Int) ≤ (((at_ ws_1 0).length) : Int), (0 : Int) ≤ 0 ∧ 0 < (ws_1.length : Int), 0 < ws_1.length] ⟨⟨(by omega), (by omega)⟩, (by omega), ⟨(by omega), (by omega), (by omega)⟩, ⟨(by omega), (by omega)⟩, (by omega), trivial⟩ ?_
     refine xe_block 0 ?_
     refine xe_then ?_
     refine xR [] [2] [2, 7001, 9231, 9232] [.ref 2 0] [some (.box [.arr 9231, .arr 9232]), some (bxl00Src s'_2), some (.arr 1 ls_1.length (fS ls_1)), some (.oar [9203] 1 ws_1.length (fun q => bif Nat.beq q 0 then [.sl true 1 ((((at_ ws_1 0).length) : Int).toNat - 1) (cutF 1 (fI (at_ ws_1 0)))] else (fLI true ws_1) q))] [] trivial ?_
     refine x_ret ?_
     refine xe_end ((Perceptron.mk ls_1 (ws_1.set 0 ((at_ ws_1 0).drop 1))), s'_2) (show (okSrc s'_2) ∧ (s'_2.code = s.code) ∧ (s.atx + 0 ≤ s'_2.atx ∧ s'_2.atx ≤ s.atx + 1000) ∧ (drP (Perceptron.mk ls_1 (ws_1.set 0 ((at_ ws_1 0).drop 1)))) ∧ (True) from ⟨(by first | omega | assumption | rfl | exact hs0.1 | exact hs0.2.1 | (simp only [*]; done) | exact okP_dr hok | exact drP_l (okP_dr hok) (by assumption) | exact drP_w (okP_dr hok) (by simp) | exact ⟨by show ls.length ≤ 20; omega, hsz, by show ws.length ≤ 20; omega⟩), (by first | omega | assumption | rfl | exact hs0.1 | exact hs0.2.1 | (simp only [*]; done) | exact okP_dr hok | exact drP_l (okP_dr hok) (by assumption) | exact drP_w (okP_dr hok) (by simp) | exact ⟨by show ls.length ≤ 20; omega, hsz, by show ws.length ≤ 20; omega⟩), (by first | omega | assumption | rfl | exact hs0.1 | exact hs0.2.1 | (simp only [*]; done) | exact okP_dr hok | exact drP_l (okP_dr hok) (by assumption) | exact drP_w (okP_dr hok) (by simp) | exact ⟨by show ls.length ≤ 20; omega, hsz, by show ws.length ≤ 20; omega⟩), (by first | omega | assumption | rfl | exact hs0.1 | exact hs0.2.1 | (simp only [*]; done) | exact okP_dr hok | exact drP_l (okP_dr hok) (by assumption) | exact drP_w (okP_dr hok) (by simp) | exact ⟨by show ls.length ≤ 20; omega, hsz, by show ws.length ≤ 20; omega⟩), trivial⟩) (⟨.inl rfl, trivial⟩) (.agg [.arr 9231, .arr 9232]) (by kernel_rfl) (.inr ⟨⟨(fun _ => rfl), rfl, rfl, fun i _ => .inl rfl⟩, ⟨⟨(fun _ => rfl), rfl, (by simp), oupdLI ws_1 0 ((at_ ws_1 0).drop 1) ⟨⟨(fun _ => rfl), rfl, (by first | rfl | (simp; done) | (simp; omega) | omega), fun i_ hi_ => .inl (cut_drop (enc := cI) hi_)⟩, rfl⟩⟩, rfl⟩⟩) (fun _ => rfl) (fun _ => (by simp [tagged, taggedL, tagLI, tagS]))
    refine x_r [(0, .dec false)] [0, 2, 3, 9, 37] [2, 3, 7001, 9203, 9231, 9232] [.ref 7001 0, .ref 2 0, .ref 3 0, I v_2, Bv false] [some (.box [nilA, nilA]), some (.box [.arr 9231, .arr 9232]), some (bxl00Src s'_2), some (.fam ws_1.length 1 (mLI ws_1) (gLI ws_1)), some (.arr 1 ls_1.length (fS ls_1)), some (.oar [9203] 1 ws_1.length (oLI 9203 ws_1))] [¬ (v_2 = 3)] ⟨h4, trivial⟩ ?_
    refine xe_then ?_
    refine x_false rfl ?_
    refine x_seq ?_
    by_cases h5 : v_2 = 4
    ·refine x_r [(0, .dec true)] [0, 2, 3, 47] [2, 3, 7001, 9203, 9231, 9232] [.ref 7001 0, .ref 2 0, .ref 3 0, Bv true] [some (.box [nilA, nilA]), some (.box [.arr 9231, .arr 9232]), some (bxl00Src s'_2), some (.fam ws_1.length 1 (mLI ws_1) (gLI ws_1)), some (.arr 1 ls_1.length (fS ls_1)), some (.oar [9203] 1 ws_1.length (oLI 9203 ws_1))] [v_2 = 4] ⟨h5, trivial⟩ ?_
     refine xe_then ?_
     refine x_true rfl ?_
     refine xR [] [0, 2, 3] [2, 3, 7001] [.ref 7001 0, .ref 2 0, .ref 3 0] [some (.box [nilA, nilA]), some (.box [nilA, nilA]), some (bxl00Src s'_2)] [] trivial ?_
     refine xR [] [0, 2, 3, 5] [2, 3, 7001] [.ref 7001 0, .ref 2 0, .ref 3 0, I 0] [some (.box [nilA, nilA]), some (.box [nilA, nilA]), some (bxl00Src s'_2)] [] trivial ?_
     refine x_block ?_
     refine x_nilC 3 0 730 1 (fun _ => []) rfl (by kernel_rfl) ?_
     refine x_nilC 3 1 731 1 (fun _ => []) rfl (by kernel_rfl) ?_
     refine x_fam 9203 1 (fun _ => 0) (fun _ _ => []) (by kernel_rfl) ?_
     refine x_weak [] (T := [(0, .ref 7001 0), (2, .ref 2 0), (3, .ref 3 0), (5, I 0)]) (O := [(2, .box [nilA, nilA]), (3, .box [.arr 730, .arr 731]), (730, .arr 1 (([] : List ByteArray).length) (fS ([] : List ByteArray))), (731, .oar [9203] 1 (([] : List (List Int)).length) (oLI 9203 ([] : List (List Int)))), (7001, bxl00Src s'_2), (9203, .fam ([] : List (List Int)).length 1 (mLI ([] : List (List Int))) (gLI ([] : List (List Int))))]) rfl (⟨.inl rfl, .inl rfl, .inl rfl, .inl rfl, trivial⟩) (⟨.inl rfl, .inl rfl, .inr ⟨rfl, (by first | rfl | (simp; done) | (simp; omega) | omega), fun i_ hi_ => absurd hi_ (Nat.not_lt_zero _)⟩, .inr ⟨rfl, rfl, fun i hi => absurd hi (Nat.not_lt_zero _)⟩, .inl rfl, .inr ⟨rfl, rfl, fun p hp => absurd hp (Nat.not_lt_zero _)⟩, trivial⟩) ?_
     refine x_loop (X := Int × (List ByteArray) × (List (List Int)) × l00Src) (fun x => mkS [(0, .ref 7001 0), (2, .ref 2 0), (3, .ref 3 0), (5, I x.1)] [(2, .box [nilA, nilA]), (3, .box [.arr 730, .arr 731]), (730, .arr 1 x.2.1.length (fS x.2.1)), (731, .oar [9203] 1 x.2.2.1.length (oLI 9203 x.2.2.1)), (7001, bxl00Src x.2.2.2), (9203, .fam x.2.2.1.length 1 (mLI x.2.2.1) (gLI x.2.2.1))]) (fun x => (okSrc x.2.2.2 ∧ x.2.2.2.code = s.code ∧ s.atx ≤ x.2.2.2.atx ∧ x.2.2.2.atx ≤ s.atx + 910 + 2 * x.1) ∧ (0 ≤ x.1 ∧ x.1 ≤ 13) ∧ ((x.2.1.length : Int) = x.1) ∧ ((x.2.2.1.length : Int) = x.1) ∧ (∀ l_ ∈ x.2.1, l_.size ≤ 64) ∧ True) (fun x => (14 - x.1).toNat) (0, ([] : List ByteArray), ([] : List (List Int)), s'_2) rfl (show (okSrc s'_2 ∧ s'_2.code = s.code ∧ s.atx ≤ s'_2.atx ∧ s'_2.atx ≤ s.atx + 910 + 2 * (0 : Int)) ∧ (0 ≤ (0 : Int) ∧ (0 : Int) ≤ 13) ∧ ((([] : List ByteArray).length : Int) = (0 : Int)) ∧ ((([] : List (List Int)).length : Int) = (0 : Int)) ∧ (∀ l_ ∈ ([] : List ByteArray), l_.size ≤ 64) ∧ True from ⟨(by exact ⟨by assumption, by first | assumption | rfl | (simp only [*]; done), by omega, by omega⟩), (by omega), (by rfl), (by rfl), (by (intro z hz; simp at hz)), trivial⟩) (fun x hI => ?_)
     obtain ⟨k, ls, ws, src⟩ := x
     obtain ⟨hs0, hk0, hll, hwl, hsz, _⟩ : (okSrc src ∧ src.code = s.code ∧ s.atx ≤ src.atx ∧ src.atx ≤ s.atx + 910 + 2 * k) ∧ (0 ≤ k ∧ k ≤ 13) ∧ ((ls.length : Int) = k) ∧ ((ws.length : Int) = k) ∧ (∀ l_ ∈ ls, l_.size ≤ 64) ∧ True := hI
     show XW _ _ _ _ (mkS [(0, .ref 7001 0), (2, .ref 2 0), (3, .ref 3 0), (5, I k)] [(2, .box [nilA, nilA]), (3, .box [.arr 730, .arr 731]), (730, .arr 1 ls.length (fS ls)), (731, .oar [9203] 1 ws.length (oLI 9203 ws)), (7001, bxl00Src src), (9203, .fam ws.length 1 (mLI ws) (gLI ws))]) _ _
     refine x_seq ?_
     refine x_seq ?_
     obtain ⟨v_6, s'_6, hx6_0, hx6_1, hx6_2, hx6_3, hc6⟩ := pick_ok src 2 (by first | assumption | (simp only [okSrc] at *; simp_all; done)) (by omega)
     by_cases h6 : k < (12 + v_6)
     ·refine x_r [(2, .lend [(7001, bxl00Src src, bxl00Src s'_6)] [] [(true, .any), (true, .any)] true (I v_6)), (4, .dec true)] [0, 2, 3, 5, 54] [2, 3, 730, 731, 7001, 9203] [.ref 7001 0, .ref 2 0, .ref 3 0, I k, Bv true] [some (.box [nilA, nilA]), some (.box [.arr 730, .arr 731]), some (.arr 1 ls.length (fS ls)), some (.oar [9203] 1 ws.length (oLI 9203 ws)), some (bxl00Src s'_6), some (.fam ws.length 1 (mLI ws) (gLI ws))] [CallOK Try.prog 32 [.ref 7001 0, I 2] (lookO [(7001, bxl00Src src)]) true (I v_6) (lookO [(7001, bxl00Src s'_6)]) ∧ (((bxl00Src src : Ob) = bxl00Src src ∨ obLe noOb true (bxl00Src src) (bxl00Src src)) ∧ taggedO false (bxl00Src src)) ∧ True, inR .i64 (12 + v_6), k < (12 + v_6)] ⟨⟨hc6, ⟨.inl rfl, (by simp [taggedO, taggedL, tagged, tagU8])⟩, trivial⟩, (inR_i64 (by omega) (by omega)), h6, trivial⟩ ?_
      refine xe_then ?_
      refine x_true rfl ?_
      refine x_skip ?_
      refine xe_then ?_
      refine x_seq ?_
      refine x_block ?_
      refine xR [(5, .new 62), (6, .as (Sv (strB ([(97 + k)])))), (7, .new 64), (8, .new 65)] [0, 2, 3, 5] [2, 3, 65, 731, 7001, 9203] [.ref 7001 0, .ref 2 0, .ref 3 0, I k] [some (.box [nilA, nilA]), some (.box [.arr 65, .arr 731]), some (.arr 1 (ls.length + 1) (catF ls.length (fS ls) (litF [Sv (strB ([(97 + k)]))] 1))), some (.oar [9203] 1 ws.length (oLI 9203 ws)), some (bxl00Src s'_6), some (.fam ws.length 1 (mLI ws) (gLI ws))] [inR .i64 (97 + k), inR .u8 (97 + k), (strB ([(97 + k)])).size = 1 ∧ ∀ i_, i_ < 1 → (litF [.val (.int .u8 (97 + k))] 1) i_ = byteF (strB ([(97 + k)])) i_, (ls.length + 1) * 16 ≤ 140737488355328] ⟨(inR_i64 (by omega) (by omega)), (inR_u8 (by omega) (by omega)), (strB_ok' (fun x hx => by simp only [List.mem_singleton] at hx; omega) (by first | rfl | (simp; done) | (simp; omega) | omega) (fun i_ hi_ => .inl (match i_, hi_ with | 0, _ => rfl | (i + 1), h => absurd h (by simp)))), (by omega), trivial⟩ ?_
      refine x_r [(2, .new 69), (3, .new 70), (4, .new 71)] [0, 2, 3, 5] [2, 3, 65, 69, 71, 7001, 9203] [.ref 7001 0, .ref 2 0, .ref 3 0, I k] [some (.box [nilA, nilA]), some (.box [.arr 65, .arr 71]), some (.arr 1 (ls.length + 1) (catF ls.length (fS ls) (litF [Sv (strB ([(97 + k)]))] 1))), some (.arr 1 25 (fun _ => [I 0])), some (.oar [9203, 69] 1 (ws.length + 1) (catF ws.length (oLI 9203 ws) (litF [.arr 69] 1))), some (bxl00Src s'_6), some (.fam ws.length 1 (mLI ws) (gLI ws))] [(0 : Int) ≤ 25 ∧ (25 : Int) ≤ 25 ∧ (8 : Int) * 25 ≤ 281474976710656 ∧ (25 : Int) ≤ 9223372036854775807, (ws.length + 1) * 24 ≤ 140737488355328] ⟨⟨(by omega), (by omega), (by omega), (by omega)⟩, (by omega), trivial⟩ ?_
      refine xe_block 2 ?_
      refine xe_then ?_
      refine x_r [] [0, 2, 3, 5] [2, 3, 65, 69, 71, 7001, 9203] [.ref 7001 0, .ref 2 0, .ref 3 0, I (k + 1)] [some (.box [nilA, nilA]), some (.box [.arr 65, .arr 71]), some (.arr 1 (ls.length + 1) (catF ls.length (fS ls) (litF [Sv (strB ([(97 + k)]))] 1))), some (.arr 1 25 (fun _ => [I 0])), some (.oar [9203, 69] 1 (ws.length + 1) (catF ws.length (oLI 9203 ws) (litF [.arr 69] 1))), some (bxl00Src s'_6), some (.fam ws.length 1 (mLI ws) (gLI ws))] [inR .i64 (k + 1)] ⟨(inR_i64 (by omega) (by omega)), trivial⟩ ?_
      refine xe_join 69 9203 rfl rfl rfl ?_
      refine xe_weak [(730, 65), (731, 71)] (T := [(0, .ref 7001 0), (2, .ref 2 0), (3, .ref 3 0), (5, I (k + 1))]) (O := [(2, .box [nilA, nilA]), (3, .box [.arr 730, .arr 731]), (730, .arr 1 ((ls ++ [(strB ([(97 + k)]))]).length) (fS (ls ++ [(strB ([(97 + k)]))]))), (731, .oar [9203] 1 ((ws ++ [(List.replicate 25 (0 : Int))]).length) (oLI 9203 (ws ++ [(List.replicate 25 (0 : Int))]))), (7001, bxl00Src s'_6), (9203, .fam (ws ++ [(List.replicate 25 (0 : Int))]).length 1 (mLI (ws ++ [(List.replicate 25 (0 : Int))])) (gLI (ws ++ [(List.replicate 25 (0 : Int))])))]) rfl (⟨.inl rfl, .inl rfl, .inl rfl, .inl rfl, trivial⟩) (⟨.inl rfl, .inl rfl, .inr ⟨rfl, (by first | rfl | (simp; done) | (simp; omega) | omega), fun i_ hi_ => .inl (cat_snoc (enc := cS) (xs := ls) rfl i_ hi_)⟩, .inr ⟨rfl, rfl, (by simp), fun i hi => .inl (ocatLI rfl rfl rfl i hi)⟩, .inl rfl, .inr (fcatLI (List.replicate 25 (0 : Int)) (xs := ws) (f := (fun _ => [I 0])) (n := 25) (by first | rfl | (simp; done)) (fun i_ hi_ => const_enc (enc := cI) rfl i_ (by simpa using hi_))), trivial⟩) (xe_again ((k + 1), (ls ++ [(strB ([(97 + k)]))]), (ws ++ [(List.replicate 25 (0 : Int))]), s'_6) rfl (show (okSrc s'_6 ∧ s'_6.code = s.code ∧ s.atx ≤ s'_6.atx ∧ s'_6.atx ≤ s.atx + 910 + 2 * (k + 1)) ∧ (0 ≤ (k + 1) ∧ (k + 1) ≤ 13) ∧ (((ls ++ [(strB ([(97 + k)]))]).length : Int) = (k + 1)) ∧ (((ws ++ [(List.replicate 25 (0 : Int))]).length : Int) = (k + 1)) ∧ (∀ l_ ∈ (ls ++ [(strB ([(97 + k)]))]), l_.size ≤ 64) ∧ True from ⟨(by exact ⟨by assumption, by first | assumption | rfl | (simp only [*]; done), by omega, by omega⟩), (by omega), (by simp; omega), (by simp; omega), (by exact all_snoc9 hsz (by rw [strB_size]; show 1 ≤ 64; omega)), trivial⟩) (by first | (show ((14 - (k + 1)).toNat : Nat) < (14 - k).toNat; omega) | (dsimp only; omega)))
     refine x_r [(2, .lend [(7001, bxl00Src src, bxl00Src s'_6)] [] [(true, .any), (true, .any)] true (I v_6)), (4, .dec false)] [0, 2, 3, 5, 54] [2, 3, 730, 731, 7001, 9203] [.ref 7001 0, .ref 2 0, .ref 3 0, I k, Bv false] [some (.box [nilA, nilA]), some (.box [.arr 730, .arr 731]), some (.arr 1 ls.length (fS ls)), some (.oar [9203] 1 ws.length (oLI 9203 ws)), some (bxl00Src s'_6), some (.fam ws.length 1 (mLI ws) (gLI ws))] [CallOK Try.prog 32 [.ref 7001 0, I 2] (lookO [(7001, bxl00Src src)]) true (I v_6) (lookO [(7001, bxl00Src s'_6)]) ∧ (((bxl00Src src : Ob) = bxl00Src src ∨ obLe noOb true (bxl00Src src) (bxl00Src src)) ∧ taggedO false (bxl00Src src)) ∧ True, inR .i64 (12 + v_6), ¬ (k < (12 + v_6))] ⟨⟨hc6, ⟨.inl rfl, (by simp [taggedO, taggedL, tagged, tagU8])⟩, trivial⟩, (inR_i64 (by omega) (by omega)), h6, trivial⟩ ?_
     refine xe_then ?_
     refine x_false rfl ?_
     refine x_exit ?_
     refine xe_exit_then ?_
     refine xe_loop_exit ?_
     refine xe_exit_same ?_
     refine xe_block 0 ?_
     refine xe_then ?_
     refine xR [] [2] [2, 730, 731, 7001, 9203] [.ref 2 0] [some (.box [.arr 730, .arr 731]), some (.arr 1 ls.length (fS ls)), some (.oar [9203] 1 ws.length (oLI 9203 ws)), some (bxl00Src s'_6), some (.fam ws.length 1 (mLI ws) (gLI ws))] [] trivial ?_
     refine x_ret ?_
     refine xe_end ((Perceptron.mk ls ws), s'_6) (show (okSrc s'_6) ∧ (s'_6.code = s.code) ∧ (s.atx + 0 ≤ s'_6.atx ∧ s'_6.atx ≤ s.atx + 1000) ∧ (drP (Perceptron.mk ls ws)) ∧ (True) from ⟨(by first | omega | assumption | rfl | exact hs0.1 | exact hs0.2.1 | (simp only [*]; done) | exact okP_dr hok | exact drP_l (okP_dr hok) (by assumption) | exact drP_w (okP_dr hok) (by simp) | exact ⟨by show ls.length ≤ 20; omega, hsz, by show ws.length ≤ 20; omega⟩), (by first | omega | assumption | rfl | exact hs0.1 | exact hs0.2.1 | (simp only [*]; done) | exact okP_dr hok | exact drP_l (okP_dr hok) (by assumption) | exact drP_w (okP_dr hok) (by simp) | exact ⟨by show ls.length ≤ 20; omega, hsz, by show ws.length ≤ 20; omega⟩), (by first | omega | assumption | rfl | exact hs0.1 | exact hs0.2.1 | (simp only [*]; done) | exact okP_dr hok | exact drP_l (okP_dr hok) (by assumption) | exact drP_w (okP_dr hok) (by simp) | exact ⟨by show ls.length ≤ 20; omega, hsz, by show ws.length ≤ 20; omega⟩), (by first | omega | assumption | rfl | exact hs0.1 | exact hs0.2.1 | (simp only [*]; done) | exact okP_dr hok | exact drP_l (okP_dr hok) (by assumption) | exact drP_w (okP_dr hok) (by simp) | exact ⟨by show ls.length ≤ 20; omega, hsz, by show ws.length ≤ 20; omega⟩), trivial⟩) (⟨.inl rfl, trivial⟩) (.agg [.arr 730, .arr 731]) (by kernel_rfl) (.inr ⟨⟨(fun _ => rfl), rfl, rfl, fun i _ => .inl rfl⟩, ⟨⟨(fun _ => rfl), rfl, rfl, oleLI _ _ rfl⟩, rfl⟩⟩) (fun _ => rfl) (fun _ => (by simp [tagged, taggedL, tagLI, tagS]))
    refine x_r [(0, .dec false)] [0, 2, 3, 47] [2, 3, 7001, 9203, 9231, 9232] [.ref 7001 0, .ref 2 0, .ref 3 0, Bv false] [some (.box [nilA, nilA]), some (.box [.arr 9231, .arr 9232]), some (bxl00Src s'_2), some (.fam ws_1.length 1 (mLI ws_1) (gLI ws_1)), some (.arr 1 ls_1.length (fS ls_1)), some (.oar [9203] 1 ws_1.length (oLI 9203 ws_1))] [¬ (v_2 = 4)] ⟨h5, trivial⟩ ?_
    refine xe_then ?_
    refine x_false rfl ?_
    refine x_skip ?_
    refine xe_block 0 ?_
    refine xe_then ?_
    refine xR [] [2] [2, 7001, 9203, 9231, 9232] [.ref 2 0] [some (.box [.arr 9231, .arr 9232]), some (bxl00Src s'_2), some (.fam ws_1.length 1 (mLI ws_1) (gLI ws_1)), some (.arr 1 ls_1.length (fS ls_1)), some (.oar [9203] 1 ws_1.length (oLI 9203 ws_1))] [] trivial ?_
    refine x_ret ?_
    refine xe_end ((Perceptron.mk ls_1 ws_1), s'_2) (show (okSrc s'_2) ∧ (s'_2.code = s.code) ∧ (s.atx + 0 ≤ s'_2.atx ∧ s'_2.atx ≤ s.atx + 1000) ∧ (drP (Perceptron.mk ls_1 ws_1)) ∧ (True) from ⟨(by first | omega | assumption | rfl | exact hs0.1 | exact hs0.2.1 | (simp only [*]; done) | exact okP_dr hok | exact drP_l (okP_dr hok) (by assumption) | exact drP_w (okP_dr hok) (by simp) | exact ⟨by show ls.length ≤ 20; omega, hsz, by show ws.length ≤ 20; omega⟩), (by first | omega | assumption | rfl | exact hs0.1 | exact hs0.2.1 | (simp only [*]; done) | exact okP_dr hok | exact drP_l (okP_dr hok) (by assumption) | exact drP_w (okP_dr hok) (by simp) | exact ⟨by show ls.length ≤ 20; omega, hsz, by show ws.length ≤ 20; omega⟩), (by first | omega | assumption | rfl | exact hs0.1 | exact hs0.2.1 | (simp only [*]; done) | exact okP_dr hok | exact drP_l (okP_dr hok) (by assumption) | exact drP_w (okP_dr hok) (by simp) | exact ⟨by show ls.length ≤ 20; omega, hsz, by show ws.length ≤ 20; omega⟩), (by first | omega | assumption | rfl | exact hs0.1 | exact hs0.2.1 | (simp only [*]; done) | exact okP_dr hok | exact drP_l (okP_dr hok) (by assumption) | exact drP_w (okP_dr hok) (by simp) | exact ⟨by show ls.length ≤ 20; omega, hsz, by show ws.length ≤ 20; omega⟩), trivial⟩) (⟨.inl rfl, trivial⟩) (.agg [.arr 9231, .arr 9232]) (by kernel_rfl) (.inr ⟨⟨(fun _ => rfl), rfl, rfl, fun i _ => .inl rfl⟩, ⟨⟨(fun _ => rfl), rfl, rfl, oleLI _ _ rfl⟩, rfl⟩⟩) (fun _ => rfl) (fun _ => (by simp [tagged, taggedL, tagLI, tagS]))
  obtain ⟨⟨v, s'⟩, ⟨hh0, hh1, hh2, hh3, _⟩, hc⟩ := hh
  exact ⟨v, s', hh0, hh1, hh2, hh3, hc⟩


-- spec.l00Min
theorem l00Min_ok (a : Int) (b : Int) : Con Try.prog 91 [I a, I b] true (I (min a b)) := by
  refine fn_ok (fn := Try.f91) (nt := 10) Try.func91 rfl rfl rfl rfl (by simp [taggedL, tagged]) fun B hB => ?_
  refine aR [] [0, 1] [] [I a, I b] [] [] hB trivial ?_
  refine aw_seq ?_
  refine aw_seq ?_
  by_cases h1 : a < b
  ·refine aw_r [(2, .dec true)] [0, 1, 7] [] [I a, I b, Bv true] [] [a < b] hB ⟨h1, trivial⟩ ?_
   refine ae_then ?_
   refine aw_true rfl ?_
   refine aR [] [4] [] [I a] [] [] hB trivial ?_
   refine aw_ret ?_
   refine ae_ret_then ?_
   refine ae_ret hB (I a) (by kernel_rfl) (.inl (by refine congrArg I ?_; omega)) rfl (fun _ => trivial)
  refine aw_r [(2, .dec false)] [0, 1, 7] [] [I a, I b, Bv false] [] [¬ (a < b)] hB ⟨h1, trivial⟩ ?_
  refine ae_then ?_
  refine aw_false rfl ?_
  refine aw_skip ?_
  refine ae_then ?_
  refine aR [] [4] [] [I b] [] [] hB trivial ?_
  refine aw_ret ?_
  refine ae_ret hB (I b) (by kernel_rfl) (.inl (by refine congrArg I ?_; omega)) rfl (fun _ => trivial)


-- spec.l00Max
theorem l00Max_ok (a : Int) (b : Int) : Con Try.prog 47 [I a, I b] true (I (max a b)) := by
  refine fn_ok (fn := Try.f47) (nt := 10) Try.func47 rfl rfl rfl rfl (by simp [taggedL, tagged]) fun B hB => ?_
  refine aR [] [0, 1] [] [I a, I b] [] [] hB trivial ?_
  refine aw_seq ?_
  refine aw_seq ?_
  by_cases h1 : b < a
  ·refine aw_r [(2, .dec true)] [0, 1, 7] [] [I a, I b, Bv true] [] [b < a] hB ⟨h1, trivial⟩ ?_
   refine ae_then ?_
   refine aw_true rfl ?_
   refine aR [] [4] [] [I a] [] [] hB trivial ?_
   refine aw_ret ?_
   refine ae_ret_then ?_
   refine ae_ret hB (I a) (by kernel_rfl) (.inl (by refine congrArg I ?_; omega)) rfl (fun _ => trivial)
  refine aw_r [(2, .dec false)] [0, 1, 7] [] [I a, I b, Bv false] [] [¬ (b < a)] hB ⟨h1, trivial⟩ ?_
  refine ae_then ?_
  refine aw_false rfl ?_
  refine aw_skip ?_
  refine ae_then ?_
  refine aR [] [4] [] [I b] [] [] hB trivial ?_
  refine aw_ret ?_
  refine ae_ret hB (I b) (by kernel_rfl) (.inl (by refine congrArg I ?_; omega)) rfl (fun _ => trivial)


-- spec.l08Draw
theorem l08Draw_ok (s : l00Src) (most : Int) (hs : okSrc s) (ha : s.atx ≤ 3999999999999999000) (hm : 1 ≤ most ∧ most ≤ 12) : ∃ (s' : l00Src) (fs : List Feat), (okSrc s') ∧ (s'.code = s.code) ∧ (s.atx + 0 ≤ s'.atx ∧ s'.atx ≤ s.atx + 300) ∧ (1 ≤ (fs.length : Int) ∧ (fs.length : Int) ≤ most) ∧ CallOK Try.prog 68 [.ref 7001 0, I most] (lookO [(7001, bxl00Src s)]) false (.arr 9301) (lookO [(7001, bxl00Src s'), (9301, .arr 3 fs.length (fFeat fs))]) := by
  have hh : ∃ r : l00Src × (List Feat), ((okSrc r.1) ∧ (r.1.code = s.code) ∧ (s.atx + 0 ≤ r.1.atx ∧ r.1.atx ≤ s.atx + 300) ∧ (1 ≤ (r.2.length : Int) ∧ (r.2.length : Int) ≤ most) ∧ (True)) ∧ CallOK Try.prog 68 [.ref 7001 0, I most] (lookO [(7001, bxl00Src s)]) false (.arr 9301) (lookO [(7001, bxl00Src r.1), (9301, .arr 3 r.2.length (fFeat r.2))]) := by
    refine fn_okX (Φ := fun r : l00Src × (List Feat) => (okSrc r.1) ∧ (r.1.code = s.code) ∧ (s.atx + 0 ≤ r.1.atx ∧ r.1.atx ≤ s.atx + 300) ∧ (1 ≤ (r.2.length : Int) ∧ (r.2.length : Int) ≤ most) ∧ (True)) [(7001, bxl00Src s)] (fun r => [(7001, bxl00Src r.1), (9301, .arr 3 r.2.length (fFeat r.2))]) (fn := Try.f68) (nt := 51) Try.func68 rfl rfl (args := [.ref 7001 0, I most]) rfl (allcons (.inr trivial) (allcons (.inl ⟨rfl, trivial⟩) allnil)) (res := fun r => .arr 9301) ?_
    refine xR [] [0, 1] [7001] [.ref 7001 0, I most] [some (bxl00Src s)] [] trivial ?_
    refine xR [(0, .new 10)] [0, 1, 5] [10, 7001] [.ref 7001 0, I most, .arr 10] [some (.arr 3 0 (litF [] 3)), some (bxl00Src s)] [] trivial ?_
    refine x_seq ?_
    obtain ⟨v_1, s'_1, hx1_0, hx1_1, hx1_2, hx1_3, hc1⟩ := pick_ok s 200 (by first | assumption | (simp only [okSrc] at *; simp_all; done)) (by omega)
    refine x_r [(1, .lend [(7001, bxl00Src s, bxl00Src s'_1)] [] [(true, .any), (true, .any)] true (I v_1))] [0, 1, 5, 6] [10, 7001] [.ref 7001 0, I most, .arr 10, I v_1] [some (.arr 3 0 (litF [] 3)), some (bxl00Src s'_1)] [CallOK Try.prog 32 [.ref 7001 0, I 200] (lookO [(7001, bxl00Src s)]) true (I v_1) (lookO [(7001, bxl00Src s'_1)]) ∧ (((bxl00Src s : Ob) = bxl00Src s ∨ obLe noOb true (bxl00Src s) (bxl00Src s)) ∧ taggedO false (bxl00Src s)) ∧ True] ⟨⟨hc1, ⟨.inl rfl, (by simp [taggedO, taggedL, tagged, tagU8])⟩, trivial⟩, trivial⟩ ?_
    refine xe_then ?_
    refine x_seq ?_
    obtain ⟨v_2, s'_2, hx2_0, hx2_1, hx2_2, hx2_3, hc2⟩ := pick_ok s'_1 200 (by first | assumption | (simp only [okSrc] at *; simp_all; done)) (by omega)
    refine x_r [(1, .lend [(7001, bxl00Src s'_1, bxl00Src s'_2)] [] [(true, .any), (true, .any)] true (I v_2))] [0, 1, 5, 6, 7] [10, 7001] [.ref 7001 0, I most, .arr 10, I v_1, I v_2] [some (.arr 3 0 (litF [] 3)), some (bxl00Src s'_2)] [CallOK Try.prog 32 [.ref 7001 0, I 200] (lookO [(7001, bxl00Src s'_1)]) true (I v_2) (lookO [(7001, bxl00Src s'_2)]) ∧ (((bxl00Src s'_1 : Ob) = bxl00Src s'_1 ∨ obLe noOb true (bxl00Src s'_1) (bxl00Src s'_1)) ∧ taggedO false (bxl00Src s'_1)) ∧ True] ⟨⟨hc2, ⟨.inl rfl, (by simp [taggedO, taggedL, tagged, tagU8])⟩, trivial⟩, trivial⟩ ?_
    refine xe_then ?_
    refine x_seq ?_
    obtain ⟨v_3, s'_3, hx3_0, hx3_1, hx3_2, hx3_3, hc3⟩ := pick_ok s'_2 8 (by first | assumption | (simp only [okSrc] at *; simp_all; done)) (by omega)
    refine x_r [(1, .lend [(7001, bxl00Src s'_2, bxl00Src s'_3)] [] [(true, .any), (true, .any)] true (I v_3))] [0, 1, 5, 6, 7, 8] [10, 7001] [.ref 7001 0, I most, .arr 10, I v_1, I v_2, I v_3] [some (.arr 3 0 (litF [] 3)), some (bxl00Src s'_3)] [CallOK Try.prog 32 [.ref 7001 0, I 8] (lookO [(7001, bxl00Src s'_2)]) true (I v_3) (lookO [(7001, bxl00Src s'_3)]) ∧ (((bxl00Src s'_2 : Ob) = bxl00Src s'_2 ∨ obLe noOb true (bxl00Src s'_2) (bxl00Src s'_2)) ∧ taggedO false (bxl00Src s'_2)) ∧ True] ⟨⟨hc3, ⟨.inl rfl, (by simp [taggedO, taggedL, tagged, tagU8])⟩, trivial⟩, trivial⟩ ?_
    refine xe_then ?_
    refine x_seq ?_
    refine x_seq ?_
    obtain ⟨v_4, s'_4, hx4_0, hx4_1, hx4_2, hx4_3, hc4⟩ := pick_ok s'_3 most (by first | assumption | (simp only [okSrc] at *; simp_all; done)) (by omega)
    refine x_r [(2, .lend [(7001, bxl00Src s'_3, bxl00Src s'_4)] [] [(true, .any), (true, .any)] true (I v_4))] [0, 5, 6, 7, 8, 9] [10, 7001] [.ref 7001 0, .arr 10, I v_1, I v_2, I v_3, I (1 + v_4)] [some (.arr 3 0 (litF [] 3)), some (bxl00Src s'_4)] [CallOK Try.prog 32 [.ref 7001 0, I most] (lookO [(7001, bxl00Src s'_3)]) true (I v_4) (lookO [(7001, bxl00Src s'_4)]) ∧ (((bxl00Src s'_3 : Ob) = bxl00Src s'_3 ∨ obLe noOb true (bxl00Src s'_3) (bxl00Src s'_3)) ∧ taggedO false (bxl00Src s'_3)) ∧ True, inR .i64 (1 + v_4)] ⟨⟨hc4, ⟨.inl rfl, (by simp [taggedO, taggedL, tagged, tagU8])⟩, trivial⟩, (inR_i64 (by omega) (by omega)), trivial⟩ ?_
    refine xe_then ?_
    refine x_block ?_
    refine x_weak [] (T := [(0, .ref 7001 0), (5, .arr 10), (6, I v_1), (7, I v_2), (8, I v_3), (9, I (1 + v_4))]) (O := [(10, .arr 3 (([] : List Feat).length) (fFeat ([] : List Feat))), (7001, bxl00Src s'_4)]) rfl (⟨.inl rfl, .inl rfl, .inl rfl, .inl rfl, .inl rfl, .inl rfl, trivial⟩) (⟨.inr ⟨rfl, (by first | rfl | (simp; done) | (simp; omega) | omega), fun i_ hi_ => absurd hi_ (Nat.not_lt_zero _)⟩, .inl rfl, trivial⟩) ?_
    refine x_loop (X := (List Feat) × Int × Int × Int × Int × l00Src) (fun x => mkS [(0, .ref 7001 0), (5, .arr 10), (6, I x.2.1), (7, I x.2.2.1), (8, I x.2.2.2.1), (9, I x.2.2.2.2.1)] [(10, .arr 3 x.1.length (fFeat x.1)), (7001, bxl00Src x.2.2.2.2.2)]) (fun x => (okSrc x.2.2.2.2.2 ∧ x.2.2.2.2.2.code = s.code ∧ s.atx ≤ x.2.2.2.2.2.atx ∧ x.2.2.2.2.2.atx ≤ s.atx + 20 + 10 * (most - x.2.2.2.2.1)) ∧ (0 ≤ x.2.2.2.2.1 ∧ x.2.2.2.2.1 ≤ most) ∧ ((x.1.length : Int) + x.2.2.2.2.1 ≤ most) ∧ (1 ≤ (x.1.length : Int) + x.2.2.2.2.1) ∧ (0 ≤ x.2.1 ∧ x.2.1 ≤ 255) ∧ (0 ≤ x.2.2.1 ∧ x.2.2.1 ≤ 255) ∧ True) (fun x => x.2.2.2.2.1.toNat) (([] : List Feat), v_1, v_2, v_3, (1 + v_4), s'_4) rfl (show (okSrc s'_4 ∧ s'_4.code = s.code ∧ s.atx ≤ s'_4.atx ∧ s'_4.atx ≤ s.atx + 20 + 10 * (most - (1 + v_4))) ∧ (0 ≤ (1 + v_4) ∧ (1 + v_4) ≤ most) ∧ ((([] : List Feat).length : Int) + (1 + v_4) ≤ most) ∧ (1 ≤ (([] : List Feat).length : Int) + (1 + v_4)) ∧ (0 ≤ v_1 ∧ v_1 ≤ 255) ∧ (0 ≤ v_2 ∧ v_2 ≤ 255) ∧ True from ⟨(by exact ⟨by assumption, by first | assumption | rfl | (simp only [*]; done), by omega, by omega⟩), (by omega), (by simp; omega), (by simp; omega), (by omega), (by omega), trivial⟩) (fun x hI => ?_)
    obtain ⟨out, x, y, d, k, src⟩ := x
    obtain ⟨hs0, hk0, hol, hol2, hx0, hy0, _⟩ : (okSrc src ∧ src.code = s.code ∧ s.atx ≤ src.atx ∧ src.atx ≤ s.atx + 20 + 10 * (most - k)) ∧ (0 ≤ k ∧ k ≤ most) ∧ ((out.length : Int) + k ≤ most) ∧ (1 ≤ (out.length : Int) + k) ∧ (0 ≤ x ∧ x ≤ 255) ∧ (0 ≤ y ∧ y ≤ 255) ∧ True := hI
    show XW _ _ _ _ (mkS [(0, .ref 7001 0), (5, .arr 10), (6, I x), (7, I y), (8, I d), (9, I k)] [(10, .arr 3 out.length (fFeat out)), (7001, bxl00Src src)]) _ _
    refine x_seq ?_
    refine x_seq ?_
    by_cases h1 : 0 < k
    ·refine x_r [(1, .dec true)] [0, 5, 6, 7, 8, 9, 22] [10, 7001] [.ref 7001 0, .arr 10, I x, I y, I d, I k, Bv true] [some (.arr 3 out.length (fFeat out)), some (bxl00Src src)] [0 < k] ⟨h1, trivial⟩ ?_
     refine xe_then ?_
     refine x_true rfl ?_
     refine x_skip ?_
     refine xe_then ?_
     refine x_seq ?_
     refine x_block ?_
     refine xR [(5, .new 30), (6, .new 31)] [0, 5, 6, 7, 8, 9] [31, 7001] [.ref 7001 0, .arr 31, I x, I y, I d, I k] [some (.arr 3 (out.length + 1) (catF out.length (fFeat out) (litF [I x, I y, I d] 3))), some (bxl00Src src)] [(out.length + 1) * 24 ≤ 140737488355328] ⟨(by omega), trivial⟩ ?_
     refine x_seq ?_
     obtain ⟨v_5, s'_5, hx5_0, hx5_1, hx5_2, hx5_3, hc5⟩ := pick_ok src 61 (by first | assumption | (simp only [okSrc] at *; simp_all; done)) (by omega)
     refine x_r [(2, .lend [(7001, bxl00Src src, bxl00Src s'_5)] [] [(true, .any), (true, .any)] true (I v_5)), (5, .call [(true, .any), (true, .any)] true (I (min 255 ((x + v_5) - 30)))), (6, .call [(true, .any), (true, .any)] true (I (max 0 (min 255 ((x + v_5) - 30)))))] [0, 5, 6, 7, 8, 9] [31, 7001] [.ref 7001 0, .arr 31, I (max 0 (min 255 ((x + v_5) - 30))), I y, I d, I k] [some (.arr 3 (out.length + 1) (catF out.length (fFeat out) (litF [I x, I y, I d] 3))), some (bxl00Src s'_5)] [CallOK Try.prog 32 [.ref 7001 0, I 61] (lookO [(7001, bxl00Src src)]) true (I v_5) (lookO [(7001, bxl00Src s'_5)]) ∧ (((bxl00Src src : Ob) = bxl00Src src ∨ obLe noOb true (bxl00Src src) (bxl00Src src)) ∧ taggedO false (bxl00Src src)) ∧ True, inR .i64 (x + v_5), inR .i64 ((x + v_5) - 30), Con Try.prog 91 [I 255, I ((x + v_5) - 30)] true (I (min 255 ((x + v_5) - 30))) ∧ True, Con Try.prog 47 [I 0, I (min 255 ((x + v_5) - 30))] true (I (max 0 (min 255 ((x + v_5) - 30)))) ∧ True] ⟨⟨hc5, ⟨.inl rfl, (by simp [taggedO, taggedL, tagged, tagU8])⟩, trivial⟩, (inR_i64 (by omega) (by omega)), (inR_i64 (by omega) (by omega)), ⟨(l00Min_ok 255 ((x + v_5) - 30)), trivial⟩, ⟨(l00Max_ok 0 (min 255 ((x + v_5) - 30))), trivial⟩, trivial⟩ ?_
     refine xe_then ?_
     refine x_seq ?_
     obtain ⟨v_6, s'_6, hx6_0, hx6_1, hx6_2, hx6_3, hc6⟩ := pick_ok s'_5 61 (by first | assumption | (simp only [okSrc] at *; simp_all; done)) (by omega)
     refine x_r [(2, .lend [(7001, bxl00Src s'_5, bxl00Src s'_6)] [] [(true, .any), (true, .any)] true (I v_6)), (5, .call [(true, .any), (true, .any)] true (I (min 255 ((y + v_6) - 30)))), (6, .call [(true, .any), (true, .any)] true (I (max 0 (min 255 ((y + v_6) - 30)))))] [0, 5, 6, 7, 8, 9] [31, 7001] [.ref 7001 0, .arr 31, I (max 0 (min 255 ((x + v_5) - 30))), I (max 0 (min 255 ((y + v_6) - 30))), I d, I k] [some (.arr 3 (out.length + 1) (catF out.length (fFeat out) (litF [I x, I y, I d] 3))), some (bxl00Src s'_6)] [CallOK Try.prog 32 [.ref 7001 0, I 61] (lookO [(7001, bxl00Src s'_5)]) true (I v_6) (lookO [(7001, bxl00Src s'_6)]) ∧ (((bxl00Src s'_5 : Ob) = bxl00Src s'_5 ∨ obLe noOb true (bxl00Src s'_5) (bxl00Src s'_5)) ∧ taggedO false (bxl00Src s'_5)) ∧ True, inR .i64 (y + v_6), inR .i64 ((y + v_6) - 30), Con Try.prog 91 [I 255, I ((y + v_6) - 30)] true (I (min 255 ((y + v_6) - 30))) ∧ True, Con Try.prog 47 [I 0, I (min 255 ((y + v_6) - 30))] true (I (max 0 (min 255 ((y + v_6) - 30)))) ∧ True] ⟨⟨hc6, ⟨.inl rfl, (by simp [taggedO, taggedL, tagged, tagU8])⟩, trivial⟩, (inR_i64 (by omega) (by omega)), (inR_i64 (by omega) (by omega)), ⟨(l00Min_ok 255 ((y + v_6) - 30)), trivial⟩, ⟨(l00Max_ok 0 (min 255 ((y + v_6) - 30))), trivial⟩, trivial⟩ ?_
     refine xe_then ?_
     refine x_seq ?_
     obtain ⟨v_7, s'_7, hx7_0, hx7_1, hx7_2, hc7⟩ := one_ok s'_6 2 (by first | assumption | (simp only [okSrc] at *; simp_all; done)) (by omega)
     rcases Bool.eq_false_or_eq_true v_7 with h2 | h2
     ·subst h2
      refine x_r [(1, .lend [(7001, bxl00Src s'_6, bxl00Src s'_7)] [] [(true, .any), (true, .any)] true (Bv true))] [0, 5, 6, 7, 8, 9, 47] [31, 7001] [.ref 7001 0, .arr 31, I (max 0 (min 255 ((x + v_5) - 30))), I (max 0 (min 255 ((y + v_6) - 30))), I d, I k, Bv true] [some (.arr 3 (out.length + 1) (catF out.length (fFeat out) (litF [I x, I y, I d] 3))), some (bxl00Src s'_7)] [CallOK Try.prog 30 [.ref 7001 0, I 2] (lookO [(7001, bxl00Src s'_6)]) true (Bv true) (lookO [(7001, bxl00Src s'_7)]) ∧ (((bxl00Src s'_6 : Ob) = bxl00Src s'_6 ∨ obLe noOb true (bxl00Src s'_6) (bxl00Src s'_6)) ∧ taggedO false (bxl00Src s'_6)) ∧ True] ⟨⟨hc7, ⟨.inl rfl, (by simp [taggedO, taggedL, tagged, tagU8])⟩, trivial⟩, trivial⟩ ?_
      refine xe_then ?_
      refine x_true rfl ?_
      obtain ⟨v_8, s'_8, hx8_0, hx8_1, hx8_2, hx8_3, hc8⟩ := pick_ok s'_7 8 (by first | assumption | (simp only [okSrc] at *; simp_all; done)) (by omega)
      refine x_r [(1, .lend [(7001, bxl00Src s'_7, bxl00Src s'_8)] [] [(true, .any), (true, .any)] true (I v_8))] [0, 5, 6, 7, 8, 9] [31, 7001] [.ref 7001 0, .arr 31, I (max 0 (min 255 ((x + v_5) - 30))), I (max 0 (min 255 ((y + v_6) - 30))), I v_8, I k] [some (.arr 3 (out.length + 1) (catF out.length (fFeat out) (litF [I x, I y, I d] 3))), some (bxl00Src s'_8)] [CallOK Try.prog 32 [.ref 7001 0, I 8] (lookO [(7001, bxl00Src s'_7)]) true (I v_8) (lookO [(7001, bxl00Src s'_8)]) ∧ (((bxl00Src s'_7 : Ob) = bxl00Src s'_7 ∨ obLe noOb true (bxl00Src s'_7) (bxl00Src s'_7)) ∧ taggedO false (bxl00Src s'_7)) ∧ True] ⟨⟨hc8, ⟨.inl rfl, (by simp [taggedO, taggedL, tagged, tagU8])⟩, trivial⟩, trivial⟩ ?_
      refine xe_block 1 ?_
      refine xe_then ?_
      refine x_r [] [0, 5, 6, 7, 8, 9] [31, 7001] [.ref 7001 0, .arr 31, I (max 0 (min 255 ((x + v_5) - 30))), I (max 0 (min 255 ((y + v_6) - 30))), I v_8, I (k - 1)] [some (.arr 3 (out.length + 1) (catF out.length (fFeat out) (litF [I x, I y, I d] 3))), some (bxl00Src s'_8)] [inR .i64 (k - 1)] ⟨(inR_i64 (by omega) (by omega)), trivial⟩ ?_
      refine xe_weak [(10, 31)] (T := [(0, .ref 7001 0), (5, .arr 10), (6, I (max 0 (min 255 ((x + v_5) - 30)))), (7, I (max 0 (min 255 ((y + v_6) - 30)))), (8, I v_8), (9, I (k - 1))]) (O := [(10, .arr 3 ((out ++ [(Feat.mk x y d)]).length) (fFeat (out ++ [(Feat.mk x y d)]))), (7001, bxl00Src s'_8)]) rfl (⟨.inl rfl, .inl rfl, .inl rfl, .inl rfl, .inl rfl, .inl rfl, trivial⟩) (⟨.inr ⟨rfl, (by first | rfl | (simp; done) | (simp; omega) | omega), fun i_ hi_ => .inl (cat_snoc (enc := cFeat) (xs := out) rfl i_ hi_)⟩, .inl rfl, trivial⟩) (xe_again ((out ++ [(Feat.mk x y d)]), (max 0 (min 255 ((x + v_5) - 30))), (max 0 (min 255 ((y + v_6) - 30))), v_8, (k - 1), s'_8) rfl (show (okSrc s'_8 ∧ s'_8.code = s.code ∧ s.atx ≤ s'_8.atx ∧ s'_8.atx ≤ s.atx + 20 + 10 * (most - (k - 1))) ∧ (0 ≤ (k - 1) ∧ (k - 1) ≤ most) ∧ (((out ++ [(Feat.mk x y d)]).length : Int) + (k - 1) ≤ most) ∧ (1 ≤ ((out ++ [(Feat.mk x y d)]).length : Int) + (k - 1)) ∧ (0 ≤ (max 0 (min 255 ((x + v_5) - 30))) ∧ (max 0 (min 255 ((x + v_5) - 30))) ≤ 255) ∧ (0 ≤ (max 0 (min 255 ((y + v_6) - 30))) ∧ (max 0 (min 255 ((y + v_6) - 30))) ≤ 255) ∧ True from ⟨(by exact ⟨by assumption, by first | assumption | rfl | (simp only [*]; done), by omega, by omega⟩), (by omega), (by simp; omega), (by simp; omega), (by omega), (by omega), trivial⟩) (by first | (show ((k - 1).toNat : Nat) < k.toNat; omega) | (dsimp only; omega)))
     subst h2
     refine x_r [(1, .lend [(7001, bxl00Src s'_6, bxl00Src s'_7)] [] [(true, .any), (true, .any)] true (Bv false))] [0, 5, 6, 7, 8, 9, 47] [31, 7001] [.ref 7001 0, .arr 31, I (max 0 (min 255 ((x + v_5) - 30))), I (max 0 (min 255 ((y + v_6) - 30))), I d, I k, Bv false] [some (.arr 3 (out.length + 1) (catF out.length (fFeat out) (litF [I x, I y, I d] 3))), some (bxl00Src s'_7)] [CallOK Try.prog 30 [.ref 7001 0, I 2] (lookO [(7001, bxl00Src s'_6)]) true (Bv false) (lookO [(7001, bxl00Src s'_7)]) ∧ (((bxl00Src s'_6 : Ob) = bxl00Src s'_6 ∨ obLe noOb true (bxl00Src s'_6) (bxl00Src s'_6)) ∧ taggedO false (bxl00Src s'_6)) ∧ True] ⟨⟨hc7, ⟨.inl rfl, (by simp [taggedO, taggedL, tagged, tagU8])⟩, trivial⟩, trivial⟩ ?_
     refine xe_then ?_
     refine x_false rfl ?_
     refine x_skip ?_
     refine xe_block 1 ?_
     refine xe_then ?_
     refine x_r [] [0, 5, 6, 7, 8, 9] [31, 7001] [.ref 7001 0, .arr 31, I (max 0 (min 255 ((x + v_5) - 30))), I (max 0 (min 255 ((y + v_6) - 30))), I d, I (k - 1)] [some (.arr 3 (out.length + 1) (catF out.length (fFeat out) (litF [I x, I y, I d] 3))), some (bxl00Src s'_7)] [inR .i64 (k - 1)] ⟨(inR_i64 (by omega) (by omega)), trivial⟩ ?_
     refine xe_weak [(10, 31)] (T := [(0, .ref 7001 0), (5, .arr 10), (6, I (max 0 (min 255 ((x + v_5) - 30)))), (7, I (max 0 (min 255 ((y + v_6) - 30)))), (8, I d), (9, I (k - 1))]) (O := [(10, .arr 3 ((out ++ [(Feat.mk x y d)]).length) (fFeat (out ++ [(Feat.mk x y d)]))), (7001, bxl00Src s'_7)]) rfl (⟨.inl rfl, .inl rfl, .inl rfl, .inl rfl, .inl rfl, .inl rfl, trivial⟩) (⟨.inr ⟨rfl, (by first | rfl | (simp; done) | (simp; omega) | omega), fun i_ hi_ => .inl (cat_snoc (enc := cFeat) (xs := out) rfl i_ hi_)⟩, .inl rfl, trivial⟩) (xe_again ((out ++ [(Feat.mk x y d)]), (max 0 (min 255 ((x + v_5) - 30))), (max 0 (min 255 ((y + v_6) - 30))), d, (k - 1), s'_7) rfl (show (okSrc s'_7 ∧ s'_7.code = s.code ∧ s.atx ≤ s'_7.atx ∧ s'_7.atx ≤ s.atx + 20 + 10 * (most - (k - 1))) ∧ (0 ≤ (k - 1) ∧ (k - 1) ≤ most) ∧ (((out ++ [(Feat.mk x y d)]).length : Int) + (k - 1) ≤ most) ∧ (1 ≤ ((out ++ [(Feat.mk x y d)]).length : Int) + (k - 1)) ∧ (0 ≤ (max 0 (min 255 ((x + v_5) - 30))) ∧ (max 0 (min 255 ((x + v_5) - 30))) ≤ 255) ∧ (0 ≤ (max 0 (min 255 ((y + v_6) - 30))) ∧ (max 0 (min 255 ((y + v_6) - 30))) ≤ 255) ∧ True from ⟨(by exact ⟨by assumption, by first | assumption | rfl | (simp only [*]; done), by omega, by omega⟩), (by omega), (by simp; omega), (by simp; omega), (by omega), (by omega), trivial⟩) (by first | (show ((k - 1).toNat : Nat) < k.toNat; omega) | (dsimp only; omega)))
    refine x_r [(1, .dec false)] [0, 5, 6, 7, 8, 9, 22] [10, 7001] [.ref 7001 0, .arr 10, I x, I y, I d, I k, Bv false] [some (.arr 3 out.length (fFeat out)), some (bxl00Src src)] [¬ (0 < k)] ⟨h1, trivial⟩ ?_
    refine xe_then ?_
    refine x_false rfl ?_
    refine x_exit ?_
    refine xe_exit_then ?_
    refine xe_loop_exit ?_
    refine xe_exit_same ?_
    refine xe_then ?_
    refine xR [] [4] [10, 7001] [.arr 10] [some (.arr 3 out.length (fFeat out)), some (bxl00Src src)] [] trivial ?_
    refine x_ret ?_
    refine xe_weak [(9301, 10)] (T := [(4, .arr 9301)]) (O := [(7001, bxl00Src src), (9301, .arr 3 out.length (fFeat out))]) rfl (⟨.inl rfl, trivial⟩) (⟨.inl rfl, .inl rfl, trivial⟩) ?_
    refine xe_end (src, out) (show (okSrc src) ∧ (src.code = s.code) ∧ (s.atx + 0 ≤ src.atx ∧ src.atx ≤ s.atx + 300) ∧ (1 ≤ (out.length : Int) ∧ (out.length : Int) ≤ most) ∧ (True) from ⟨(by first | omega | assumption | exact hs0.1 | exact hs0.2.1), (by first | omega | assumption | exact hs0.1 | exact hs0.2.1), (by first | omega | assumption | exact hs0.1 | exact hs0.2.1), (by first | omega | assumption | exact hs0.1 | exact hs0.2.1), trivial⟩) (⟨.inl rfl, .inl rfl, trivial⟩) (.arr 9301) (by kernel_rfl) (.inl rfl) (fun h => by cases h) (fun h => by cases h)
  obtain ⟨⟨s', fs⟩, ⟨hh0, hh1, hh2, hh3, _⟩, hc⟩ := hh
  exact ⟨s', fs, hh0, hh1, hh2, hh3, hc⟩


theorem leSm (ob : Nat → Option Ob) (fv fr : Bool) (x : Sample) : leL ob fv (cSample true x) (cSample fr x) := And.intro rfl (And.intro (And.intro (fun _ => rfl) (And.intro rfl (And.intro rfl (fun i _ => .inl rfl)))) rfl)
theorem oaddSample {ob : Nat → Option Ob} {fr : Bool} (xs : List Sample) (x : Sample) {g : Nat → List AV} (h : leL ob true (g 0) (cSample fr x)) : ∀ i, i < (xs ++ [x]).length → AV.idsL (fSample fr (xs ++ [x]) i) = [] ∧ leL ob true (catF xs.length (fSample true xs) g i) (fSample fr (xs ++ [x]) i) := by
  intro i hi
  by_cases hl : i < xs.length
  · rw [catF_lt hl]
    have e : fSample fr (xs ++ [x]) i = cSample fr (at_ xs i) := by show cSample fr (at_ _ _) = _; rw [at_left hl]
    rw [e]; exact ⟨rfl, leSm _ _ _ _⟩
  · have e : i = xs.length := by simp at hi; omega
    subst e
    rw [catF_ge (Nat.le_refl _), Nat.sub_self]
    have e : fSample fr (xs ++ [x]) xs.length = cSample fr x := by show cSample fr (at_ _ _) = _; rw [at_right (Nat.le_refl _)]; simp [at_]
    rw [e]; exact ⟨rfl, h⟩
theorem cat_le {α : Type} [Inhabited α] {enc : α → List AV} {xs : List α} {x : α} {g : Nat → List AV} (h : AV.idsL (enc x) = [] ∧ leL (fun _ => none) false (g 0) (enc x)) (i : Nat) (hi : i < (xs ++ [x]).length) : catF xs.length (fun q => enc (at_ xs q)) g i = enc (at_ (xs ++ [x]) i) ∨ (AV.idsL (enc (at_ (xs ++ [x]) i)) = [] ∧ leL (fun _ => none) false (catF xs.length (fun q => enc (at_ xs q)) g i) (enc (at_ (xs ++ [x]) i))) := by
  by_cases hl : i < xs.length
  · left; rw [catF_lt hl, at_left hl]
  · right
    have e : i = xs.length := by simp at hi; omega
    subst e
    rw [catF_ge (Nat.le_refl _), Nat.sub_self, at_right (Nat.le_refl _)]
    simpa [at_] using h

def drS (list : List Sample) : Prop := list.length ≤ 60 ∧ ∀ y ∈ list, y.Label.size ≤ 64
theorem drS_nil : drS [] := ⟨by decide, fun y hy => absurd hy List.not_mem_nil⟩
theorem drS_snoc {xs : List Sample} {x : Sample} (h : ∀ y ∈ xs, y.Label.size ≤ 64) (hx : x.Label.size ≤ 64) : ∀ y ∈ xs ++ [x], y.Label.size ≤ 64 := all_snoc9 h hx
theorem drS_add {xs : List Sample} {x : Sample} (hl : xs.length ≤ 50) (h : ∀ y ∈ xs, y.Label.size ≤ 64) (hx : x.Label.size ≤ 64) : drS (xs ++ [x]) := ⟨by simp; omega, drS_snoc h hx⟩
theorem sm_sz {p : Perceptron} {xs : List Sample} (hp : drP p) (h : ∀ x ∈ xs, okSm p.Labels x) : ∀ y ∈ xs, y.Label.size ≤ 64 := fun y hy => hp.2.1 _ (h y hy).1

-- spec.l12All
theorem l12All_ok (s : l00Src) (most : Int) (hs : okSrc s) (ha : s.atx ≤ 3999999999999991000) (hm : 0 ≤ most ∧ most ≤ 8) : ∃ (v : Perceptron) (w : List Sample) (s' : l00Src), (okSrc s') ∧ (s'.code = s.code) ∧ (s.atx + 0 ≤ s'.atx ∧ s'.atx ≤ s.atx + 2500) ∧ (drP v) ∧ (drS w) ∧ CallOK Try.prog 57 [.ref 7001 0, I most] (lookO [(7001, bxl00Src s)]) true (.tup [agPerceptronT v, slSample true w]) (lookO [(7001, bxl00Src s')]) := by
  have hh : ∃ r : Perceptron × (List Sample) × l00Src, ((okSrc r.2.2) ∧ (r.2.2.code = s.code) ∧ (s.atx + 0 ≤ r.2.2.atx ∧ r.2.2.atx ≤ s.atx + 2500) ∧ (drP r.1) ∧ (drS r.2.1) ∧ (True)) ∧ CallOK Try.prog 57 [.ref 7001 0, I most] (lookO [(7001, bxl00Src s)]) true (.tup [agPerceptronT r.1, slSample true r.2.1]) (lookO [(7001, bxl00Src r.2.2)]) := by
    refine fn_okX (Φ := fun r : Perceptron × (List Sample) × l00Src => (okSrc r.2.2) ∧ (r.2.2.code = s.code) ∧ (s.atx + 0 ≤ r.2.2.atx ∧ r.2.2.atx ≤ s.atx + 2500) ∧ (drP r.1) ∧ (drS r.2.1) ∧ (True)) [(7001, bxl00Src s)] (fun r => [(7001, bxl00Src r.2.2)]) (fn := Try.f57) (nt := 56) Try.func57 rfl rfl (args := [.ref 7001 0, I most]) rfl (allcons (.inr trivial) (allcons (.inl ⟨rfl, trivial⟩) allnil)) (res := fun r => .tup [agPerceptronT r.1, slSample true r.2.1]) ?_
    refine xR [(0, .new 4)] [0, 1, 4] [4, 7001] [.ref 7001 0, I most, .ref 4 0] [some (.box [nilA, nilA]), some (bxl00Src s)] [] trivial ?_
    refine x_seq ?_
    obtain ⟨v_1, s'_1, hx1_0, hx1_1, hx1_2, hx1_3, hc1⟩ := l12Bent_ok s (by first | assumption | (simp only [okSrc] at *; simp_all; done)) (by omega)
    have hdp : drP v_1 := hx1_3
    refine x_r [(1, .lend [(7001, bxl00Src s, bxl00Src s'_1)] [] [(true, .any)] true (agPerceptronT v_1)), (2, .new 6)] [0, 1, 4, 6] [4, 6, 7001] [.ref 7001 0, I most, .ref 4 0, .ref 6 0] [some (.box [nilA, nilA]), some (bxPerceptronT v_1), some (bxl00Src s'_1)] [CallOK Try.prog 29 [.ref 7001 0] (lookO [(7001, bxl00Src s)]) true (agPerceptronT v_1) (lookO [(7001, bxl00Src s'_1)]) ∧ (((bxl00Src s : Ob) = bxl00Src s ∨ obLe noOb true (bxl00Src s) (bxl00Src s)) ∧ taggedO false (bxl00Src s)) ∧ True] ⟨⟨hc1, ⟨.inl rfl, (by simp [taggedO, taggedL, tagged, tagU8])⟩, trivial⟩, trivial⟩ ?_
    refine xe_then ?_
    refine xR [(0, .new 11)] [0, 1, 4, 6, 7] [4, 6, 11, 7001] [.ref 7001 0, I most, .ref 4 0, .ref 6 0, .arr 11] [some (.box [nilA, nilA]), some (bxPerceptronT v_1), some (.arr 2 0 (litF [] 2)), some (bxl00Src s'_1)] [] trivial ?_
    refine x_seq ?_
    refine x_seq ?_
    rcases Bool.eq_false_or_eq_true (okPerc v_1) with h1 | h1
    ·have hpn := okP_n h1
     have hz0 := hdp.2.1 _ (at_mem (xs := v_1.Labels) (i := 0) (by omega))
     refine x_r [(0, .call [(false, .ptr false [slS false v_1.Labels, slLI false v_1.Weights])] true (Bv true))] [0, 1, 4, 6, 7, 12] [4, 6, 11, 7001] [.ref 7001 0, I most, .ref 4 0, .ref 6 0, .arr 11, Bv true] [some (.box [nilA, nilA]), some (bxPerceptronT v_1), some (.arr 2 0 (litF [] 2)), some (bxl00Src s'_1)] [Con Try.prog 38 [.ptr false [slS false v_1.Labels, slLI false v_1.Weights]] true (Bv true) ∧ ((false = true → true = true) ∧ AV.idsL [slS false v_1.Labels, slLI false v_1.Weights] = [] ∧ ((false = true → true = true) ∧ 1 = 1 ∧ v_1.Labels.length = v_1.Labels.length ∧ ∀ i_, i_ < v_1.Labels.length → (fS v_1.Labels) i_ = (fS v_1.Labels) i_ ∨ (AV.idsL ((fS v_1.Labels) i_) = [] ∧ leL (fun _ => none) false ((fS v_1.Labels) i_) ((fS v_1.Labels) i_))) ∧ ((false = true → true = true) ∧ 1 = 1 ∧ v_1.Weights.length = v_1.Weights.length ∧ ∀ i_, i_ < v_1.Weights.length → (fLI true v_1.Weights) i_ = (fLI false v_1.Weights) i_ ∨ (AV.idsL ((fLI false v_1.Weights) i_) = [] ∧ leL (fun _ => none) false ((fLI true v_1.Weights) i_) ((fLI false v_1.Weights) i_))) ∧ ([] : List AV) = []) ∧ True] ⟨⟨(con_bool h1 (l12Ok_ok v_1 (fun y hy => by have := hdp.2.1 y hy; omega))), ⟨(fun h => by cases h), rfl, ⟨⟨(fun h => by cases h), rfl, rfl, fun i _ => .inl rfl⟩, ⟨⟨(fun h => by cases h), rfl, rfl, fun i _ => .inr ⟨idsLI _ _, leLI _ _ _⟩⟩, rfl⟩⟩⟩, trivial⟩, trivial⟩ ?_
     refine xe_then ?_
     refine x_true rfl ?_
     refine x_weak [] (T := [(0, .ref 7001 0), (1, I most), (4, .ref 4 0), (6, .ptr true [slS true v_1.Labels, slLI true v_1.Weights]), (7, .arr 11), (12, Bv true)]) (O := [(4, .box [nilA, nilA]), (11, .arr 2 0 (litF [] 2)), (7001, bxl00Src s'_1)]) rfl (⟨.inl rfl, .inl rfl, .inl rfl, .inr ⟨(fun _ => rfl), rfl, ⟨⟨(fun _ => rfl), rfl, rfl, fun i _ => .inl rfl⟩, ⟨⟨(fun _ => rfl), rfl, rfl, fun i _ => .inl rfl⟩, rfl⟩⟩⟩, .inl rfl, .inl rfl, trivial⟩) (⟨.inl rfl, .inl rfl, .inl rfl, trivial⟩) ?_
     obtain ⟨s'_2, sm_2, hx2_0, hx2_1, hx2_2, hx2_3, hx2_4, hc2⟩ := l12DrawSamples_ok s'_1 v_1 most (by first | assumption | (simp only [okSrc] at *; simp_all; done)) (by omega) (by omega) (by omega)
     have hml : sm_2.length ≤ 8 := by omega
     have hmz := sm_sz hdp hx2_4
     refine x_r [(2, .lend [(7001, bxl00Src s'_1, bxl00Src s'_2)] [(9311, .arr 2 sm_2.length (fSample true sm_2))] [(true, .any), (false, .ptr false [slS false v_1.Labels, slLI false v_1.Weights]), (true, .any)] false (.arr 9311))] [0, 4, 6, 7] [4, 7001, 9311] [.ref 7001 0, .ref 4 0, .ptr true [slS true v_1.Labels, slLI true v_1.Weights], .arr 9311] [some (.box [nilA, nilA]), some (bxl00Src s'_2), some (.arr 2 sm_2.length (fSample true sm_2))] [CallOK Try.prog 80 [.ref 7001 0, .ptr false [slS false v_1.Labels, slLI false v_1.Weights], I most] (lookO [(7001, bxl00Src s'_1)]) false (.arr 9311) (lookO [(7001, bxl00Src s'_2), (9311, .arr 2 sm_2.length (fSample true sm_2))]) ∧ ((false = true → true = true) ∧ AV.idsL [slS false v_1.Labels, slLI false v_1.Weights] = [] ∧ ((false = true → true = true) ∧ 1 = 1 ∧ v_1.Labels.length = v_1.Labels.length ∧ ∀ i_, i_ < v_1.Labels.length → (fS v_1.Labels) i_ = (fS v_1.Labels) i_ ∨ (AV.idsL ((fS v_1.Labels) i_) = [] ∧ leL (fun _ => none) false ((fS v_1.Labels) i_) ((fS v_1.Labels) i_))) ∧ ((false = true → true = true) ∧ 1 = 1 ∧ v_1.Weights.length = v_1.Weights.length ∧ ∀ i_, i_ < v_1.Weights.length → (fLI true v_1.Weights) i_ = (fLI false v_1.Weights) i_ ∨ (AV.idsL ((fLI false v_1.Weights) i_) = [] ∧ leL (fun _ => none) false ((fLI true v_1.Weights) i_) ((fLI false v_1.Weights) i_))) ∧ ([] : List AV) = []) ∧ (((bxl00Src s'_1 : Ob) = bxl00Src s'_1 ∨ obLe noOb true (bxl00Src s'_1) (bxl00Src s'_1)) ∧ taggedO false (bxl00Src s'_1)) ∧ True] ⟨⟨hc2, ⟨(fun h => by cases h), rfl, ⟨⟨(fun h => by cases h), rfl, rfl, fun i _ => .inl rfl⟩, ⟨⟨(fun h => by cases h), rfl, rfl, fun i _ => .inr ⟨idsLI _ _, leLI _ _ _⟩⟩, rfl⟩⟩⟩, ⟨.inl rfl, (by simp [taggedO, taggedL, tagged, tagU8])⟩, trivial⟩, trivial⟩ ?_
     refine xe_then ?_
     refine x_seq ?_
     refine x_seq ?_
     obtain ⟨v_3, s'_3, hx3_0, hx3_1, hx3_2, hx3_3, hc3⟩ := pick_ok s'_2 24 (by first | assumption | (simp only [okSrc] at *; simp_all; done)) (by omega)
     refine x_r [(1, .lend [(7001, bxl00Src s'_2, bxl00Src s'_3)] [] [(true, .any), (true, .any)] true (I v_3))] [0, 4, 6, 7, 17] [4, 7001, 9311] [.ref 7001 0, .ref 4 0, .ptr true [slS true v_1.Labels, slLI true v_1.Weights], .arr 9311, I v_3] [some (.box [nilA, nilA]), some (bxl00Src s'_3), some (.arr 2 sm_2.length (fSample true sm_2))] [CallOK Try.prog 32 [.ref 7001 0, I 24] (lookO [(7001, bxl00Src s'_2)]) true (I v_3) (lookO [(7001, bxl00Src s'_3)]) ∧ (((bxl00Src s'_2 : Ob) = bxl00Src s'_2 ∨ obLe noOb true (bxl00Src s'_2) (bxl00Src s'_2)) ∧ taggedO false (bxl00Src s'_2)) ∧ True] ⟨⟨hc3, ⟨.inl rfl, (by simp [taggedO, taggedL, tagged, tagU8])⟩, trivial⟩, trivial⟩ ?_
     refine xe_then ?_
     refine x_block ?_
     refine x_seq ?_
     by_cases h2 : v_3 = 0
     ·refine x_r [(0, .dec true)] [0, 4, 6, 7, 17, 18] [4, 7001, 9311] [.ref 7001 0, .ref 4 0, .ptr true [slS true v_1.Labels, slLI true v_1.Weights], .arr 9311, I v_3, Bv true] [some (.box [nilA, nilA]), some (bxl00Src s'_3), some (.arr 2 sm_2.length (fSample true sm_2))] [v_3 = 0] ⟨h2, trivial⟩ ?_
      refine xe_then ?_
      refine x_true rfl ?_
      refine x_weak [] (T := [(0, .ref 7001 0), (4, .ref 4 0), (6, .ptr true [slS true v_1.Labels, slLI true v_1.Weights]), (7, .arr 9311), (17, I v_3), (18, Bv true)]) (O := [(4, .box [nilA, nilA]), (7001, bxl00Src s'_3), (9311, .oar [] 2 sm_2.length (fSample true sm_2))]) rfl (⟨.inl rfl, .inl rfl, .inl rfl, .inl rfl, .inl rfl, .inl rfl, trivial⟩) (⟨.inl rfl, .inl rfl, .inr ⟨rfl, rfl, fun i hi => rfl⟩, trivial⟩) ?_
      obtain ⟨s'_4, fs_4, hx4_0, hx4_1, hx4_2, hx4_3, hc4⟩ := l08Draw_ok s'_3 4 (by first | assumption | (simp only [okSrc] at *; simp_all; done)) (by omega) (by omega)
      refine x_r [(2, .lend [(7001, bxl00Src s'_3, bxl00Src s'_4)] [(9301, .arr 3 fs_4.length (fFeat fs_4))] [(true, .any), (true, .any)] false (.arr 9301)), (4, .new 24), (5, .new 25)] [4, 6, 7] [4, 25, 7001, 9301] [.ref 4 0, .ptr true [slS true v_1.Labels, slLI true v_1.Weights], .arr 25] [some (.box [nilA, nilA]), some (.oar [9301] 2 (sm_2.length + 1) (catF sm_2.length (fSample true sm_2) (litF [Sv (⟨#[122]⟩ : ByteArray), .arr 9301] 2))), some (bxl00Src s'_4), some (.arr 3 fs_4.length (fFeat fs_4))] [CallOK Try.prog 68 [.ref 7001 0, I 4] (lookO [(7001, bxl00Src s'_3)]) false (.arr 9301) (lookO [(7001, bxl00Src s'_4), (9301, .arr 3 fs_4.length (fFeat fs_4))]) ∧ (((bxl00Src s'_3 : Ob) = bxl00Src s'_3 ∨ obLe noOb true (bxl00Src s'_3) (bxl00Src s'_3)) ∧ taggedO false (bxl00Src s'_3)) ∧ True, (sm_2.length + 1) * 40 ≤ 140737488355328] ⟨⟨hc4, ⟨.inl rfl, (by simp [taggedO, taggedL, tagged, tagU8])⟩, trivial⟩, (by first | omega | (simp only [List.length_nil]; omega)), trivial⟩ ?_
      refine xe_block 0 ?_
      refine xe_then ?_
      refine xR [] [4, 5] [4, 25, 7001, 9301] [.ref 4 0, .arr 25] [some (bxPerceptronT v_1), some (.oar [9301] 2 (sm_2.length + 1) (catF sm_2.length (fSample true sm_2) (litF [Sv (⟨#[122]⟩ : ByteArray), .arr 9301] 2))), some (bxl00Src s'_4), some (.arr 3 fs_4.length (fFeat fs_4))] [] trivial ?_
      refine x_ret ?_
      refine xe_end (v_1, (sm_2 ++ [(Sample.mk (⟨#[122]⟩ : ByteArray) fs_4)]), s'_4) (show (okSrc s'_4) ∧ (s'_4.code = s.code) ∧ (s.atx + 0 ≤ s'_4.atx ∧ s'_4.atx ≤ s.atx + 2500) ∧ (drP v_1) ∧ (drS (sm_2 ++ [(Sample.mk (⟨#[122]⟩ : ByteArray) fs_4)])) ∧ (True) from ⟨(by first | omega | assumption | rfl | exact hs0.1 | exact hs0.2.1 | (simp only [*]; done) | exact ⟨by omega, hsz⟩ | exact ⟨by omega, hmz⟩ | exact drS_add (by omega) hmz (by show 1 ≤ 64; decide) | exact drS_nil | exact drS_add (xs := []) (by decide) drS_nil.2 (by show 1 ≤ 64; decide)), (by first | omega | assumption | rfl | exact hs0.1 | exact hs0.2.1 | (simp only [*]; done) | exact ⟨by omega, hsz⟩ | exact ⟨by omega, hmz⟩ | exact drS_add (by omega) hmz (by show 1 ≤ 64; decide) | exact drS_nil | exact drS_add (xs := []) (by decide) drS_nil.2 (by show 1 ≤ 64; decide)), (by first | omega | assumption | rfl | exact hs0.1 | exact hs0.2.1 | (simp only [*]; done) | exact ⟨by omega, hsz⟩ | exact ⟨by omega, hmz⟩ | exact drS_add (by omega) hmz (by show 1 ≤ 64; decide) | exact drS_nil | exact drS_add (xs := []) (by decide) drS_nil.2 (by show 1 ≤ 64; decide)), (by first | omega | assumption | rfl | exact hs0.1 | exact hs0.2.1 | (simp only [*]; done) | exact ⟨by omega, hsz⟩ | exact ⟨by omega, hmz⟩ | exact drS_add (by omega) hmz (by show 1 ≤ 64; decide) | exact drS_nil | exact drS_add (xs := []) (by decide) drS_nil.2 (by show 1 ≤ 64; decide)), (by first | omega | assumption | rfl | exact hs0.1 | exact hs0.2.1 | (simp only [*]; done) | exact ⟨by omega, hsz⟩ | exact ⟨by omega, hmz⟩ | exact drS_add (by omega) hmz (by show 1 ≤ 64; decide) | exact drS_nil | exact drS_add (xs := []) (by decide) drS_nil.2 (by show 1 ≤ 64; decide)), trivial⟩) (⟨.inl rfl, trivial⟩) (.tup [agPerceptronT v_1, .arr 25]) (by kernel_rfl) (.inr ⟨⟨⟨(fun _ => rfl), rfl, rfl, fun i _ => .inl rfl⟩, ⟨⟨(fun _ => rfl), rfl, rfl, fun i _ => .inl rfl⟩, rfl⟩⟩, ⟨⟨(fun _ => rfl), rfl, (by simp), oaddSample sm_2 (Sample.mk (⟨#[122]⟩ : ByteArray) fs_4) ⟨rfl, ⟨⟨(fun _ => rfl), rfl, rfl, fun i _ => .inl rfl⟩, rfl⟩⟩⟩, rfl⟩⟩) (fun _ => rfl) (fun _ => (by simp [tagged, taggedL, tagLI, tagS, tagSample]))
     refine x_r [(0, .dec false)] [0, 4, 6, 7, 17, 18] [4, 7001, 9311] [.ref 7001 0, .ref 4 0, .ptr true [slS true v_1.Labels, slLI true v_1.Weights], .arr 9311, I v_3, Bv false] [some (.box [nilA, nilA]), some (bxl00Src s'_3), some (.arr 2 sm_2.length (fSample true sm_2))] [¬ (v_3 = 0)] ⟨h2, trivial⟩ ?_
     refine xe_then ?_
     refine x_false rfl ?_
     refine x_seq ?_
     by_cases h3 : v_3 = 1
     ·refine x_r [(0, .dec true)] [0, 4, 6, 7, 17, 26] [4, 7001, 9311] [.ref 7001 0, .ref 4 0, .ptr true [slS true v_1.Labels, slLI true v_1.Weights], .arr 9311, I v_3, Bv true] [some (.box [nilA, nilA]), some (bxl00Src s'_3), some (.arr 2 sm_2.length (fSample true sm_2))] [v_3 = 1] ⟨h3, trivial⟩ ?_
      refine xe_then ?_
      refine x_true rfl ?_
      refine x_r [(2, .new 30), (3, .new 31)] [4, 6, 7] [4, 31, 7001] [.ref 4 0, .ptr true [slS true v_1.Labels, slLI true v_1.Weights], .arr 31] [some (.box [nilA, nilA]), some (.arr 2 (sm_2.length + 1) (catF sm_2.length (fSample true sm_2) (litF [Sv (⟨#[97]⟩ : ByteArray), nilA] 2))), some (bxl00Src s'_3)] [(sm_2.length + 1) * 40 ≤ 140737488355328] ⟨(by first | omega | (simp only [List.length_nil]; omega)), trivial⟩ ?_
      refine xe_block 0 ?_
      refine xe_then ?_
      refine xR [] [4, 5] [4, 31, 7001] [.ref 4 0, .arr 31] [some (bxPerceptronT v_1), some (.arr 2 (sm_2.length + 1) (catF sm_2.length (fSample true sm_2) (litF [Sv (⟨#[97]⟩ : ByteArray), nilA] 2))), some (bxl00Src s'_3)] [] trivial ?_
      refine x_ret ?_
      refine xe_end (v_1, (sm_2 ++ [(Sample.mk (⟨#[97]⟩ : ByteArray) ([] : List Feat))]), s'_3) (show (okSrc s'_3) ∧ (s'_3.code = s.code) ∧ (s.atx + 0 ≤ s'_3.atx ∧ s'_3.atx ≤ s.atx + 2500) ∧ (drP v_1) ∧ (drS (sm_2 ++ [(Sample.mk (⟨#[97]⟩ : ByteArray) ([] : List Feat))])) ∧ (True) from ⟨(by first | omega | assumption | rfl | exact hs0.1 | exact hs0.2.1 | (simp only [*]; done) | exact ⟨by omega, hsz⟩ | exact ⟨by omega, hmz⟩ | exact drS_add (by omega) hmz (by show 1 ≤ 64; decide) | exact drS_nil | exact drS_add (xs := []) (by decide) drS_nil.2 (by show 1 ≤ 64; decide)), (by first | omega | assumption | rfl | exact hs0.1 | exact hs0.2.1 | (simp only [*]; done) | exact ⟨by omega, hsz⟩ | exact ⟨by omega, hmz⟩ | exact drS_add (by omega) hmz (by show 1 ≤ 64; decide) | exact drS_nil | exact drS_add (xs := []) (by decide) drS_nil.2 (by show 1 ≤ 64; decide)), (by first | omega | assumption | rfl | exact hs0.1 | exact hs0.2.1 | (simp only [*]; done) | exact ⟨by omega, hsz⟩ | exact ⟨by omega, hmz⟩ | exact drS_add (by omega) hmz (by show 1 ≤ 64; decide) | exact drS_nil | exact drS_add (xs := []) (by decide) drS_nil.2 (by show 1 ≤ 64; decide)), (by first | omega | assumption | rfl | exact hs0.1 | exact hs0.2.1 | (simp only [*]; done) | exact ⟨by omega, hsz⟩ | exact ⟨by omega, hmz⟩ | exact drS_add (by omega) hmz (by show 1 ≤ 64; decide) | exact drS_nil | exact drS_add (xs := []) (by decide) drS_nil.2 (by show 1 ≤ 64; decide)), (by first | omega | assumption | rfl | exact hs0.1 | exact hs0.2.1 | (simp only [*]; done) | exact ⟨by omega, hsz⟩ | exact ⟨by omega, hmz⟩ | exact drS_add (by omega) hmz (by show 1 ≤ 64; decide) | exact drS_nil | exact drS_add (xs := []) (by decide) drS_nil.2 (by show 1 ≤ 64; decide)), trivial⟩) (⟨.inl rfl, trivial⟩) (.tup [agPerceptronT v_1, .arr 31]) (by kernel_rfl) (.inr ⟨⟨⟨(fun _ => rfl), rfl, rfl, fun i _ => .inl rfl⟩, ⟨⟨(fun _ => rfl), rfl, rfl, fun i _ => .inl rfl⟩, rfl⟩⟩, ⟨⟨(fun _ => rfl), rfl, (by first | rfl | (simp; done) | (simp; omega) | omega), fun i_ hi_ => cat_le (enc := (cSample true)) (xs := sm_2) (x := (Sample.mk (⟨#[97]⟩ : ByteArray) ([] : List Feat))) (g := (litF [Sv (⟨#[97]⟩ : ByteArray), nilA] 2)) ⟨rfl, ⟨rfl, ⟨⟨rfl, rfl⟩, rfl⟩⟩⟩ i_ hi_⟩, rfl⟩⟩) (fun _ => rfl) (fun _ => (by simp [tagged, taggedL, tagLI, tagS, tagSample]))
     refine x_r [(0, .dec false)] [0, 4, 6, 7, 17, 26] [4, 7001, 9311] [.ref 7001 0, .ref 4 0, .ptr true [slS true v_1.Labels, slLI true v_1.Weights], .arr 9311, I v_3, Bv false] [some (.box [nilA, nilA]), some (bxl00Src s'_3), some (.arr 2 sm_2.length (fSample true sm_2))] [¬ (v_3 = 1)] ⟨h3, trivial⟩ ?_
     refine xe_then ?_
     refine x_false rfl ?_
     refine x_seq ?_
     by_cases h4 : v_3 = 2
     ·refine x_r [(0, .dec true)] [0, 4, 6, 7, 32] [4, 7001, 9311] [.ref 7001 0, .ref 4 0, .ptr true [slS true v_1.Labels, slLI true v_1.Weights], .arr 9311, Bv true] [some (.box [nilA, nilA]), some (bxl00Src s'_3), some (.arr 2 sm_2.length (fSample true sm_2))] [v_3 = 2] ⟨h4, trivial⟩ ?_
      refine xe_then ?_
      refine x_true rfl ?_
      refine xR [(0, .call [(false, .ptr false [slS false v_1.Labels, slLI false v_1.Weights])] true (Bv true))] [0, 4, 6, 7, 34] [4, 7001, 9311] [.ref 7001 0, .ref 4 0, .ptr true [slS true v_1.Labels, slLI true v_1.Weights], .arr 9311, Bv true] [some (.box [nilA, nilA]), some (bxl00Src s'_3), some (.arr 2 sm_2.length (fSample true sm_2))] [Con Try.prog 38 [.ptr false [slS false v_1.Labels, slLI false v_1.Weights]] true (Bv true) ∧ ((false = true → true = true) ∧ AV.idsL [slS false v_1.Labels, slLI false v_1.Weights] = [] ∧ ((false = true → true = true) ∧ 1 = 1 ∧ v_1.Labels.length = v_1.Labels.length ∧ ∀ i_, i_ < v_1.Labels.length → (fS v_1.Labels) i_ = (fS v_1.Labels) i_ ∨ (AV.idsL ((fS v_1.Labels) i_) = [] ∧ leL (fun _ => none) false ((fS v_1.Labels) i_) ((fS v_1.Labels) i_))) ∧ ((false = true → true = true) ∧ 1 = 1 ∧ v_1.Weights.length = v_1.Weights.length ∧ ∀ i_, i_ < v_1.Weights.length → (fLI true v_1.Weights) i_ = (fLI false v_1.Weights) i_ ∨ (AV.idsL ((fLI false v_1.Weights) i_) = [] ∧ leL (fun _ => none) false ((fLI true v_1.Weights) i_) ((fLI false v_1.Weights) i_))) ∧ ([] : List AV) = []) ∧ True] ⟨⟨(con_bool h1 (l12Ok_ok v_1 (fun y hy => by have := hdp.2.1 y hy; omega))), ⟨(fun h => by cases h), rfl, ⟨⟨(fun h => by cases h), rfl, rfl, fun i _ => .inl rfl⟩, ⟨⟨(fun h => by cases h), rfl, rfl, fun i _ => .inr ⟨idsLI _ _, leLI _ _ _⟩⟩, rfl⟩⟩⟩, trivial⟩, trivial⟩ ?_
      refine x_true rfl ?_
      refine xR [] [0, 4, 6, 7, 8] [4, 7001, 9311] [.ref 7001 0, .ref 4 0, .ptr true [slS true v_1.Labels, slLI true v_1.Weights], .arr 9311, I (sm_2.length : Int)] [some (.box [nilA, nilA]), some (bxl00Src s'_3), some (.arr 2 sm_2.length (fSample true sm_2))] [] trivial ?_
      refine x_block ?_
      refine x_loop (X := (List Sample) × Int × l00Src) (fun x => mkS [(0, .ref 7001 0), (4, .ref 4 0), (6, .ptr true [slS true v_1.Labels, slLI true v_1.Weights]), (7, .arr 9311), (8, I x.2.1)] [(4, .box [nilA, nilA]), (7001, bxl00Src x.2.2), (9311, .arr 2 x.1.length (fSample true x.1))]) (fun x => (okSrc x.2.2 ∧ x.2.2.code = s.code ∧ s.atx ≤ x.2.2.atx ∧ x.2.2.atx ≤ s.atx + 1720 + 2 * x.2.1) ∧ (0 ≤ x.2.1 ∧ x.2.1 ≤ 41) ∧ ((x.1.length : Int) = x.2.1) ∧ (∀ y_ ∈ x.1, y_.Label.size ≤ 64) ∧ True) (fun x => (42 - x.2.1).toNat) (sm_2, (sm_2.length : Int), s'_3) rfl (show (okSrc s'_3 ∧ s'_3.code = s.code ∧ s.atx ≤ s'_3.atx ∧ s'_3.atx ≤ s.atx + 1720 + 2 * (sm_2.length : Int)) ∧ (0 ≤ (sm_2.length : Int) ∧ (sm_2.length : Int) ≤ 41) ∧ ((sm_2.length : Int) = (sm_2.length : Int)) ∧ (∀ y_ ∈ sm_2, y_.Label.size ≤ 64) ∧ True from ⟨(by exact ⟨by assumption, by first | assumption | rfl | (simp only [*]; done), by omega, by omega⟩), (by first | omega | (simp only [List.length_nil]; omega)), (by (first | rfl | omega)), (by first | exact hmz | exact (fun z hz => by simp at hz)), trivial⟩) (fun x hI => ?_)
      obtain ⟨list, k, src⟩ := x
      obtain ⟨hs0, hk0, hll, hsz, _⟩ : (okSrc src ∧ src.code = s.code ∧ s.atx ≤ src.atx ∧ src.atx ≤ s.atx + 1720 + 2 * k) ∧ (0 ≤ k ∧ k ≤ 41) ∧ ((list.length : Int) = k) ∧ (∀ y_ ∈ list, y_.Label.size ≤ 64) ∧ True := hI
      show XW _ _ _ _ (mkS [(0, .ref 7001 0), (4, .ref 4 0), (6, .ptr true [slS true v_1.Labels, slLI true v_1.Weights]), (7, .arr 9311), (8, I k)] [(4, .box [nilA, nilA]), (7001, bxl00Src src), (9311, .arr 2 list.length (fSample true list))]) _ _
      refine x_seq ?_
      refine x_seq ?_
      obtain ⟨v_5, s'_5, hx5_0, hx5_1, hx5_2, hx5_3, hc5⟩ := pick_ok src 2 (by first | assumption | (simp only [okSrc] at *; simp_all; done)) (by omega)
      by_cases h5 : k < (40 + v_5)
      ·refine x_r [(2, .lend [(7001, bxl00Src src, bxl00Src s'_5)] [] [(true, .any), (true, .any)] true (I v_5)), (4, .dec true)] [0, 4, 6, 7, 8, 41] [4, 7001, 9311] [.ref 7001 0, .ref 4 0, .ptr true [slS true v_1.Labels, slLI true v_1.Weights], .arr 9311, I k, Bv true] [some (.box [nilA, nilA]), some (bxl00Src s'_5), some (.arr 2 list.length (fSample true list))] [CallOK Try.prog 32 [.ref 7001 0, I 2] (lookO [(7001, bxl00Src src)]) true (I v_5) (lookO [(7001, bxl00Src s'_5)]) ∧ (((bxl00Src src : Ob) = bxl00Src src ∨ obLe noOb true (bxl00Src src) (bxl00Src src)) ∧ taggedO false (bxl00Src src)) ∧ True, inR .i64 (40 + v_5), k < (40 + v_5)] ⟨⟨hc5, ⟨.inl rfl, (by simp [taggedO, taggedL, tagged, tagU8])⟩, trivial⟩, (inR_i64 (by first | omega | (simp only [List.length_nil]; omega)) (by first | omega | (simp only [List.length_nil]; omega))), h5, trivial⟩ ?_
       refine xe_then ?_
       refine x_true rfl ?_
       refine x_skip ?_
       refine xe_then ?_
       refine x_seq ?_
       refine x_block ?_
       refine x_weak [] (T := [(0, .ref 7001 0), (4, .ref 4 0), (6, .ptr true [slS true v_1.Labels, slLI true v_1.Weights]), (7, .arr 9311), (8, I k), (41, Bv true)]) (O := [(4, .box [nilA, nilA]), (7001, bxl00Src s'_5), (9311, .oar [] 2 list.length (fSample true list))]) rfl (⟨.inl rfl, .inl rfl, .inl rfl, .inl rfl, .inl rfl, .inl rfl, trivial⟩) (⟨.inl rfl, .inl rfl, .inr ⟨rfl, rfl, fun i hi => rfl⟩, trivial⟩) ?_
       refine x_r [(6, .new 50), (8, .new 52), (9, .new 53)] [0, 4, 6, 7, 8] [4, 50, 53, 7001] [.ref 7001 0, .ref 4 0, .ptr true [slS true v_1.Labels, slLI true v_1.Weights], .arr 53, I k] [some (.box [nilA, nilA]), some (.arr 3 1 (litF [I 0, I 0, I 0] 3)), some (.oar [50] 2 (list.length + 1) (catF list.length (fSample true list) (litF [Sv (at_ v_1.Labels 0), .arr 50] 2))), some (bxl00Src s'_5)] [(0 : Int) ≤ 0 ∧ 0 < (v_1.Labels.length : Int), (list.length + 1) * 40 ≤ 140737488355328] ⟨⟨(by first | omega | (simp only [List.length_nil]; omega)), (by first | omega | (simp only [List.length_nil]; omega))⟩, (by first | omega | (simp only [List.length_nil]; omega)), trivial⟩ ?_
       refine xe_block 2 ?_
       refine xe_then ?_
       refine x_r [] [0, 4, 6, 7, 8] [4, 50, 53, 7001] [.ref 7001 0, .ref 4 0, .ptr true [slS true v_1.Labels, slLI true v_1.Weights], .arr 53, I (k + 1)] [some (.box [nilA, nilA]), some (.arr 3 1 (litF [I 0, I 0, I 0] 3)), some (.oar [50] 2 (list.length + 1) (catF list.length (fSample true list) (litF [Sv (at_ v_1.Labels 0), .arr 50] 2))), some (bxl00Src s'_5)] [inR .i64 (k + 1)] ⟨(inR_i64 (by first | omega | (simp only [List.length_nil]; omega)) (by first | omega | (simp only [List.length_nil]; omega))), trivial⟩ ?_
       refine xe_weak [(9311, 53)] (T := [(0, .ref 7001 0), (4, .ref 4 0), (6, .ptr true [slS true v_1.Labels, slLI true v_1.Weights]), (7, .arr 9311), (8, I (k + 1))]) (O := [(4, .box [nilA, nilA]), (7001, bxl00Src s'_5), (9311, .arr 2 ((list ++ [(Sample.mk (at_ v_1.Labels 0) ([(Feat.mk 0 0 0)]))]).length) (fSample true (list ++ [(Sample.mk (at_ v_1.Labels 0) ([(Feat.mk 0 0 0)]))])))]) rfl (⟨.inl rfl, .inl rfl, .inl rfl, .inl rfl, .inl rfl, trivial⟩) (⟨.inl rfl, .inl rfl, .inr ⟨rfl, (by simp), oaddSample list (Sample.mk (at_ v_1.Labels 0) ([(Feat.mk 0 0 0)])) ⟨rfl, ⟨⟨(fun _ => rfl), rfl, (by first | rfl | (simp; done) | (simp; omega) | omega), fun i_ hi_ => .inl (match i_, hi_ with | 0, _ => rfl | (i + 1), h => absurd h (by simp))⟩, rfl⟩⟩⟩, trivial⟩) (xe_again ((list ++ [(Sample.mk (at_ v_1.Labels 0) ([(Feat.mk 0 0 0)]))]), (k + 1), s'_5) rfl (show (okSrc s'_5 ∧ s'_5.code = s.code ∧ s.atx ≤ s'_5.atx ∧ s'_5.atx ≤ s.atx + 1720 + 2 * (k + 1)) ∧ (0 ≤ (k + 1) ∧ (k + 1) ≤ 41) ∧ (((list ++ [(Sample.mk (at_ v_1.Labels 0) ([(Feat.mk 0 0 0)]))]).length : Int) = (k + 1)) ∧ (∀ y_ ∈ (list ++ [(Sample.mk (at_ v_1.Labels 0) ([(Feat.mk 0 0 0)]))]), y_.Label.size ≤ 64) ∧ True from ⟨(by exact ⟨by assumption, by first | assumption | rfl | (simp only [*]; done), by omega, by omega⟩), (by omega), (by simp; omega), (by exact drS_snoc hsz (by first | exact hz0 | omega)), trivial⟩) (by first | (show ((42 - (k + 1)).toNat : Nat) < (42 - k).toNat; omega) | (dsimp only; omega)))
      refine x_r [(2, .lend [(7001, bxl00Src src, bxl00Src s'_5)] [] [(true, .any), (true, .any)] true (I v_5)), (4, .dec false)] [0, 4, 6, 7, 8, 41] [4, 7001, 9311] [.ref 7001 0, .ref 4 0, .ptr true [slS true v_1.Labels, slLI true v_1.Weights], .arr 9311, I k, Bv false] [some (.box [nilA, nilA]), some (bxl00Src s'_5), some (.arr 2 list.length (fSample true list))] [CallOK Try.prog 32 [.ref 7001 0, I 2] (lookO [(7001, bxl00Src src)]) true (I v_5) (lookO [(7001, bxl00Src s'_5)]) ∧ (((bxl00Src src : Ob) = bxl00Src src ∨ obLe noOb true (bxl00Src src) (bxl00Src src)) ∧ taggedO false (bxl00Src src)) ∧ True, inR .i64 (40 + v_5), ¬ (k < (40 + v_5))] ⟨⟨hc5, ⟨.inl rfl, (by simp [taggedO, taggedL, tagged, tagU8])⟩, trivial⟩, (inR_i64 (by first | omega | (simp only [List.length_nil]; omega)) (by first | omega | (simp only [List.length_nil]; omega))), h5, trivial⟩ ?_
      refine xe_then ?_
      refine x_false rfl ?_
      refine x_exit ?_
      refine xe_exit_then ?_
      refine xe_loop_exit ?_
      refine xe_exit_same ?_
      refine xe_block 0 ?_
      refine xe_then ?_
      refine xR [] [4, 5] [4, 7001, 9311] [.ref 4 0, .arr 9311] [some (bxPerceptronT v_1), some (bxl00Src s'_5), some (.arr 2 list.length (fSample true list))] [] trivial ?_
      refine x_ret ?_
      refine xe_end (v_1, list, s'_5) (show (okSrc s'_5) ∧ (s'_5.code = s.code) ∧ (s.atx + 0 ≤ s'_5.atx ∧ s'_5.atx ≤ s.atx + 2500) ∧ (drP v_1) ∧ (drS list) ∧ (True) from ⟨(by first | omega | assumption | rfl | exact hs0.1 | exact hs0.2.1 | (simp only [*]; done) | exact ⟨by omega, hsz⟩ | exact ⟨by omega, hmz⟩ | exact drS_add (by omega) hmz (by show 1 ≤ 64; decide) | exact drS_nil | exact drS_add (xs := []) (by decide) drS_nil.2 (by show 1 ≤ 64; decide)), (by first | omega | assumption | rfl | exact hs0.1 | exact hs0.2.1 | (simp only [*]; done) | exact ⟨by omega, hsz⟩ | exact ⟨by omega, hmz⟩ | exact drS_add (by omega) hmz (by show 1 ≤ 64; decide) | exact drS_nil | exact drS_add (xs := []) (by decide) drS_nil.2 (by show 1 ≤ 64; decide)), (by first | omega | assumption | rfl | exact hs0.1 | exact hs0.2.1 | (simp only [*]; done) | exact ⟨by omega, hsz⟩ | exact ⟨by omega, hmz⟩ | exact drS_add (by omega) hmz (by show 1 ≤ 64; decide) | exact drS_nil | exact drS_add (xs := []) (by decide) drS_nil.2 (by show 1 ≤ 64; decide)), (by first | omega | assumption | rfl | exact hs0.1 | exact hs0.2.1 | (simp only [*]; done) | exact ⟨by omega, hsz⟩ | exact ⟨by omega, hmz⟩ | exact drS_add (by omega) hmz (by show 1 ≤ 64; decide) | exact drS_nil | exact drS_add (xs := []) (by decide) drS_nil.2 (by show 1 ≤ 64; decide)), (by first | omega | assumption | rfl | exact hs0.1 | exact hs0.2.1 | (simp only [*]; done) | exact ⟨by omega, hsz⟩ | exact ⟨by omega, hmz⟩ | exact drS_add (by omega) hmz (by show 1 ≤ 64; decide) | exact drS_nil | exact drS_add (xs := []) (by decide) drS_nil.2 (by show 1 ≤ 64; decide)), trivial⟩) (⟨.inl rfl, trivial⟩) (.tup [agPerceptronT v_1, .arr 9311]) (by kernel_rfl) (.inr ⟨⟨⟨(fun _ => rfl), rfl, rfl, fun i _ => .inl rfl⟩, ⟨⟨(fun _ => rfl), rfl, rfl, fun i _ => .inl rfl⟩, rfl⟩⟩, ⟨⟨(fun _ => rfl), rfl, rfl, fun i _ => .inl rfl⟩, rfl⟩⟩) (fun _ => rfl) (fun _ => (by simp [tagged, taggedL, tagLI, tagS, tagSample]))
     refine x_r [(0, .dec false)] [0, 4, 6, 7, 32] [4, 7001, 9311] [.ref 7001 0, .ref 4 0, .ptr true [slS true v_1.Labels, slLI true v_1.Weights], .arr 9311, Bv false] [some (.box [nilA, nilA]), some (bxl00Src s'_3), some (.arr 2 sm_2.length (fSample true sm_2))] [¬ (v_3 = 2)] ⟨h4, trivial⟩ ?_
     refine xe_then ?_
     refine x_false rfl ?_
     refine x_skip ?_
     refine xe_block 0 ?_
     refine xe_then ?_
     refine xR [] [4, 5] [4, 7001, 9311] [.ref 4 0, .arr 9311] [some (bxPerceptronT v_1), some (bxl00Src s'_3), some (.arr 2 sm_2.length (fSample true sm_2))] [] trivial ?_
     refine x_ret ?_
     refine xe_end (v_1, sm_2, s'_3) (show (okSrc s'_3) ∧ (s'_3.code = s.code) ∧ (s.atx + 0 ≤ s'_3.atx ∧ s'_3.atx ≤ s.atx + 2500) ∧ (drP v_1) ∧ (drS sm_2) ∧ (True) from ⟨(by first | omega | assumption | rfl | exact hs0.1 | exact hs0.2.1 | (simp only [*]; done) | exact ⟨by omega, hsz⟩ | exact ⟨by omega, hmz⟩ | exact drS_add (by omega) hmz (by show 1 ≤ 64; decide) | exact drS_nil | exact drS_add (xs := []) (by decide) drS_nil.2 (by show 1 ≤ 64; decide)), (by first | omega | assumption | rfl | exact hs0.1 | exact hs0.2.1 | (simp only [*]; done) | exact ⟨by omega, hsz⟩ | exact ⟨by omega, hmz⟩ | exact drS_add (by omega) hmz (by show 1 ≤ 64; decide) | exact drS_nil | exact drS_add (xs := []) (by decide) drS_nil.2 (by show 1 ≤ 64; decide)), (by first | omega | assumption | rfl | exact hs0.1 | exact hs0.2.1 | (simp only [*]; done) | exact ⟨by omega, hsz⟩ | exact ⟨by omega, hmz⟩ | exact drS_add (by omega) hmz (by show 1 ≤ 64; decide) | exact drS_nil | exact drS_add (xs := []) (by decide) drS_nil.2 (by show 1 ≤ 64; decide)), (by first | omega | assumption | rfl | exact hs0.1 | exact hs0.2.1 | (simp only [*]; done) | exact ⟨by omega, hsz⟩ | exact ⟨by omega, hmz⟩ | exact drS_add (by omega) hmz (by show 1 ≤ 64; decide) | exact drS_nil | exact drS_add (xs := []) (by decide) drS_nil.2 (by show 1 ≤ 64; decide)), (by first | omega | assumption | rfl | exact hs0.1 | exact hs0.2.1 | (simp only [*]; done) | exact ⟨by omega, hsz⟩ | exact ⟨by omega, hmz⟩ | exact drS_add (by omega) hmz (by show 1 ≤ 64; decide) | exact drS_nil | exact drS_add (xs := []) (by decide) drS_nil.2 (by show 1 ≤ 64; decide)), trivial⟩) (⟨.inl rfl, trivial⟩) (.tup [agPerceptronT v_1, .arr 9311]) (by kernel_rfl) (.inr ⟨⟨⟨(fun _ => rfl), rfl, rfl, fun i _ => .inl rfl⟩, ⟨⟨(fun _ => rfl), rfl, rfl, fun i _ => .inl rfl⟩, rfl⟩⟩, ⟨⟨(fun _ => rfl), rfl, rfl, fun i _ => .inl rfl⟩, rfl⟩⟩) (fun _ => rfl) (fun _ => (by simp [tagged, taggedL, tagLI, tagS, tagSample]))
    refine x_r [(0, .call [(false, .ptr false [slS false v_1.Labels, slLI false v_1.Weights])] true (Bv false))] [0, 1, 4, 6, 7, 12] [4, 6, 11, 7001] [.ref 7001 0, I most, .ref 4 0, .ref 6 0, .arr 11, Bv false] [some (.box [nilA, nilA]), some (bxPerceptronT v_1), some (.arr 2 0 (litF [] 2)), some (bxl00Src s'_1)] [Con Try.prog 38 [.ptr false [slS false v_1.Labels, slLI false v_1.Weights]] true (Bv false) ∧ ((false = true → true = true) ∧ AV.idsL [slS false v_1.Labels, slLI false v_1.Weights] = [] ∧ ((false = true → true = true) ∧ 1 = 1 ∧ v_1.Labels.length = v_1.Labels.length ∧ ∀ i_, i_ < v_1.Labels.length → (fS v_1.Labels) i_ = (fS v_1.Labels) i_ ∨ (AV.idsL ((fS v_1.Labels) i_) = [] ∧ leL (fun _ => none) false ((fS v_1.Labels) i_) ((fS v_1.Labels) i_))) ∧ ((false = true → true = true) ∧ 1 = 1 ∧ v_1.Weights.length = v_1.Weights.length ∧ ∀ i_, i_ < v_1.Weights.length → (fLI true v_1.Weights) i_ = (fLI false v_1.Weights) i_ ∨ (AV.idsL ((fLI false v_1.Weights) i_) = [] ∧ leL (fun _ => none) false ((fLI true v_1.Weights) i_) ((fLI false v_1.Weights) i_))) ∧ ([] : List AV) = []) ∧ True] ⟨⟨(con_bool h1 (l12Ok_ok v_1 (fun y hy => by have := hdp.2.1 y hy; omega))), ⟨(fun h => by cases h), rfl, ⟨⟨(fun h => by cases h), rfl, rfl, fun i _ => .inl rfl⟩, ⟨⟨(fun h => by cases h), rfl, rfl, fun i _ => .inr ⟨idsLI _ _, leLI _ _ _⟩⟩, rfl⟩⟩⟩, trivial⟩, trivial⟩ ?_
    refine xe_then ?_
    refine x_false rfl ?_
    refine x_skip ?_
    refine xe_then ?_
    refine x_seq ?_
    refine x_seq ?_
    refine x_weak [] (T := [(0, .ref 7001 0), (1, I most), (4, .ref 4 0), (6, .ref 6 0), (7, .arr 11), (12, Bv false)]) (O := [(4, .box [nilA, nilA]), (6, bxPerceptronT v_1), (11, .arr 2 (([] : List Sample).length) (fSample true ([] : List Sample))), (7001, bxl00Src s'_1)]) rfl (⟨.inl rfl, .inl rfl, .inl rfl, .inl rfl, .inl rfl, .inl rfl, trivial⟩) (⟨.inl rfl, .inl rfl, .inr ⟨rfl, (by first | rfl | (simp; done) | (simp; omega) | omega), fun i_ hi_ => absurd hi_ (Nat.not_lt_zero _)⟩, .inl rfl, trivial⟩) ?_
    obtain ⟨v_6, s'_6, hx6_0, hx6_1, hx6_2, hx6_3, hc6⟩ := pick_ok s'_1 24 (by first | assumption | (simp only [okSrc] at *; simp_all; done)) (by omega)
    refine x_r [(1, .lend [(7001, bxl00Src s'_1, bxl00Src s'_6)] [] [(true, .any), (true, .any)] true (I v_6))] [0, 4, 6, 7, 17] [4, 6, 11, 7001] [.ref 7001 0, .ref 4 0, .ref 6 0, .arr 11, I v_6] [some (.box [nilA, nilA]), some (bxPerceptronT v_1), some (.arr 2 (([] : List Sample).length) (fSample true ([] : List Sample))), some (bxl00Src s'_6)] [CallOK Try.prog 32 [.ref 7001 0, I 24] (lookO [(7001, bxl00Src s'_1)]) true (I v_6) (lookO [(7001, bxl00Src s'_6)]) ∧ (((bxl00Src s'_1 : Ob) = bxl00Src s'_1 ∨ obLe noOb true (bxl00Src s'_1) (bxl00Src s'_1)) ∧ taggedO false (bxl00Src s'_1)) ∧ True] ⟨⟨hc6, ⟨.inl rfl, (by simp [taggedO, taggedL, tagged, tagU8])⟩, trivial⟩, trivial⟩ ?_
    refine xe_then ?_
    refine x_block ?_
    refine x_seq ?_
    by_cases h6 : v_6 = 0
    ·refine x_r [(0, .dec true)] [0, 4, 6, 7, 17, 18] [4, 6, 11, 7001] [.ref 7001 0, .ref 4 0, .ref 6 0, .arr 11, I v_6, Bv true] [some (.box [nilA, nilA]), some (bxPerceptronT v_1), some (.arr 2 (([] : List Sample).length) (fSample true ([] : List Sample))), some (bxl00Src s'_6)] [v_6 = 0] ⟨h6, trivial⟩ ?_
     refine xe_then ?_
     refine x_true rfl ?_
     refine x_weak [] (T := [(0, .ref 7001 0), (4, .ref 4 0), (6, .ref 6 0), (7, .arr 11), (17, I v_6), (18, Bv true)]) (O := [(4, .box [nilA, nilA]), (6, bxPerceptronT v_1), (11, .oar [] 2 (([] : List Sample).length) (fSample true ([] : List Sample))), (7001, bxl00Src s'_6)]) rfl (⟨.inl rfl, .inl rfl, .inl rfl, .inl rfl, .inl rfl, .inl rfl, trivial⟩) (⟨.inl rfl, .inl rfl, .inr ⟨rfl, rfl, fun i hi => rfl⟩, .inl rfl, trivial⟩) ?_
     obtain ⟨s'_7, fs_7, hx7_0, hx7_1, hx7_2, hx7_3, hc7⟩ := l08Draw_ok s'_6 4 (by first | assumption | (simp only [okSrc] at *; simp_all; done)) (by omega) (by omega)
     refine x_r [(2, .lend [(7001, bxl00Src s'_6, bxl00Src s'_7)] [(9301, .arr 3 fs_7.length (fFeat fs_7))] [(true, .any), (true, .any)] false (.arr 9301)), (4, .new 24), (5, .new 25)] [4, 6, 7] [4, 6, 25, 7001, 9301] [.ref 4 0, .ref 6 0, .arr 25] [some (.box [nilA, nilA]), some (bxPerceptronT v_1), some (.oar [9301] 2 ((([] : List Sample).length) + 1) (catF (([] : List Sample).length) (fSample true ([] : List Sample)) (litF [Sv (⟨#[122]⟩ : ByteArray), .arr 9301] 2))), some (bxl00Src s'_7), some (.arr 3 fs_7.length (fFeat fs_7))] [CallOK Try.prog 68 [.ref 7001 0, I 4] (lookO [(7001, bxl00Src s'_6)]) false (.arr 9301) (lookO [(7001, bxl00Src s'_7), (9301, .arr 3 fs_7.length (fFeat fs_7))]) ∧ (((bxl00Src s'_6 : Ob) = bxl00Src s'_6 ∨ obLe noOb true (bxl00Src s'_6) (bxl00Src s'_6)) ∧ taggedO false (bxl00Src s'_6)) ∧ True, ((([] : List Sample).length) + 1) * 40 ≤ 140737488355328] ⟨⟨hc7, ⟨.inl rfl, (by simp [taggedO, taggedL, tagged, tagU8])⟩, trivial⟩, (by first | omega | (simp only [List.length_nil]; omega)), trivial⟩ ?_
     refine xe_block 0 ?_
     refine xe_then ?_
     refine xR [] [4, 5] [4, 25, 7001, 9301] [.ref 4 0, .arr 25] [some (bxPerceptronT v_1), some (.oar [9301] 2 ((([] : List Sample).length) + 1) (catF (([] : List Sample).length) (fSample true ([] : List Sample)) (litF [Sv (⟨#[122]⟩ : ByteArray), .arr 9301] 2))), some (bxl00Src s'_7), some (.arr 3 fs_7.length (fFeat fs_7))] [] trivial ?_
     refine x_ret ?_
     refine xe_end (v_1, (([] : List Sample) ++ [(Sample.mk (⟨#[122]⟩ : ByteArray) fs_7)]), s'_7) (show (okSrc s'_7) ∧ (s'_7.code = s.code) ∧ (s.atx + 0 ≤ s'_7.atx ∧ s'_7.atx ≤ s.atx + 2500) ∧ (drP v_1) ∧ (drS (([] : List Sample) ++ [(Sample.mk (⟨#[122]⟩ : ByteArray) fs_7)])) ∧ (True) from ⟨(by first | omega | assumption | rfl | exact hs0.1 | exact hs0.2.1 | (simp only [*]; done) | exact ⟨by omega, hsz⟩ | exact ⟨by omega, hmz⟩ | exact drS_add (by omega) hmz (by show 1 ≤ 64; decide) | exact drS_nil | exact drS_add (xs := []) (by decide) drS_nil.2 (by show 1 ≤ 64; decide)), (by first | omega | assumption | rfl | exact hs0.1 | exact hs0.2.1 | (simp only [*]; done) | exact ⟨by omega, hsz⟩ | exact ⟨by omega, hmz⟩ | exact drS_add (by omega) hmz (by show 1 ≤ 64; decide) | exact drS_nil | exact drS_add (xs := []) (by decide) drS_nil.2 (by show 1 ≤ 64; decide)), (by first | omega | assumption | rfl | exact hs0.1 | exact hs0.2.1 | (simp only [*]; done) | exact ⟨by omega, hsz⟩ | exact ⟨by omega, hmz⟩ | exact drS_add (by omega) hmz (by show 1 ≤ 64; decide) | exact drS_nil | exact drS_add (xs := []) (by decide) drS_nil.2 (by show 1 ≤ 64; decide)), (by first | omega | assumption | rfl | exact hs0.1 | exact hs0.2.1 | (simp only [*]; done) | exact ⟨by omega, hsz⟩ | exact ⟨by omega, hmz⟩ | exact drS_add (by omega) hmz (by show 1 ≤ 64; decide) | exact drS_nil | exact drS_add (xs := []) (by decide) drS_nil.2 (by show 1 ≤ 64; decide)), (by first | omega | assumption | rfl | exact hs0.1 | exact hs0.2.1 | (simp only [*]; done) | exact ⟨by omega, hsz⟩ | exact ⟨by omega, hmz⟩ | exact drS_add (by omega) hmz (by show 1 ≤ 64; decide) | exact drS_nil | exact drS_add (xs := []) (by decide) drS_nil.2 (by show 1 ≤ 64; decide)), trivial⟩) (⟨.inl rfl, trivial⟩) (.tup [agPerceptronT v_1, .arr 25]) (by kernel_rfl) (.inr ⟨⟨⟨(fun _ => rfl), rfl, rfl, fun i _ => .inl rfl⟩, ⟨⟨(fun _ => rfl), rfl, rfl, fun i _ => .inl rfl⟩, rfl⟩⟩, ⟨⟨(fun _ => rfl), rfl, (by simp), oaddSample ([] : List Sample) (Sample.mk (⟨#[122]⟩ : ByteArray) fs_7) ⟨rfl, ⟨⟨(fun _ => rfl), rfl, rfl, fun i _ => .inl rfl⟩, rfl⟩⟩⟩, rfl⟩⟩) (fun _ => rfl) (fun _ => (by simp [tagged, taggedL, tagLI, tagS, tagSample]))
    refine x_r [(0, .dec false)] [0, 4, 6, 7, 17, 18] [4, 6, 11, 7001] [.ref 7001 0, .ref 4 0, .ref 6 0, .arr 11, I v_6, Bv false] [some (.box [nilA, nilA]), some (bxPerceptronT v_1), some (.arr 2 (([] : List Sample).length) (fSample true ([] : List Sample))), some (bxl00Src s'_6)] [¬ (v_6 = 0)] ⟨h6, trivial⟩ ?_
    refine xe_then ?_
    refine x_false rfl ?_
    refine x_seq ?_
    by_cases h7 : v_6 = 1
    ·refine x_r [(0, .dec true)] [0, 4, 6, 7, 17, 26] [4, 6, 11, 7001] [.ref 7001 0, .ref 4 0, .ref 6 0, .arr 11, I v_6, Bv true] [some (.box [nilA, nilA]), some (bxPerceptronT v_1), some (.arr 2 (([] : List Sample).length) (fSample true ([] : List Sample))), some (bxl00Src s'_6)] [v_6 = 1] ⟨h7, trivial⟩ ?_
     refine xe_then ?_
     refine x_true rfl ?_
     refine x_r [(2, .new 30), (3, .new 31)] [4, 6, 7] [4, 6, 31, 7001] [.ref 4 0, .ref 6 0, .arr 31] [some (.box [nilA, nilA]), some (bxPerceptronT v_1), some (.arr 2 ((([] : List Sample).length) + 1) (catF (([] : List Sample).length) (fSample true ([] : List Sample)) (litF [Sv (⟨#[97]⟩ : ByteArray), nilA] 2))), some (bxl00Src s'_6)] [((([] : List Sample).length) + 1) * 40 ≤ 140737488355328] ⟨(by first | omega | (simp only [List.length_nil]; omega)), trivial⟩ ?_
     refine xe_block 0 ?_
     refine xe_then ?_
     refine xR [] [4, 5] [4, 31, 7001] [.ref 4 0, .arr 31] [some (bxPerceptronT v_1), some (.arr 2 ((([] : List Sample).length) + 1) (catF (([] : List Sample).length) (fSample true ([] : List Sample)) (litF [Sv (⟨#[97]⟩ : ByteArray), nilA] 2))), some (bxl00Src s'_6)] [] trivial ?_
     refine x_ret ?_
     refine xe_end (v_1, (([] : List Sample) ++ [(Sample.mk (⟨#[97]⟩ : ByteArray) ([] : List Feat))]), s'_6) (show (okSrc s'_6) ∧ (s'_6.code = s.code) ∧ (s.atx + 0 ≤ s'_6.atx ∧ s'_6.atx ≤ s.atx + 2500) ∧ (drP v_1) ∧ (drS (([] : List Sample) ++ [(Sample.mk (⟨#[97]⟩ : ByteArray) ([] : List Feat))])) ∧ (True) from ⟨(by first | omega | assumption | rfl | exact hs0.1 | exact hs0.2.1 | (simp only [*]; done) | exact ⟨by omega, hsz⟩ | exact ⟨by omega, hmz⟩ | exact drS_add (by omega) hmz (by show 1 ≤ 64; decide) | exact drS_nil | exact drS_add (xs := []) (by decide) drS_nil.2 (by show 1 ≤ 64; decide)), (by first | omega | assumption | rfl | exact hs0.1 | exact hs0.2.1 | (simp only [*]; done) | exact ⟨by omega, hsz⟩ | exact ⟨by omega, hmz⟩ | exact drS_add (by omega) hmz (by show 1 ≤ 64; decide) | exact drS_nil | exact drS_add (xs := []) (by decide) drS_nil.2 (by show 1 ≤ 64; decide)), (by first | omega | assumption | rfl | exact hs0.1 | exact hs0.2.1 | (simp only [*]; done) | exact ⟨by omega, hsz⟩ | exact ⟨by omega, hmz⟩ | exact drS_add (by omega) hmz (by show 1 ≤ 64; decide) | exact drS_nil | exact drS_add (xs := []) (by decide) drS_nil.2 (by show 1 ≤ 64; decide)), (by first | omega | assumption | rfl | exact hs0.1 | exact hs0.2.1 | (simp only [*]; done) | exact ⟨by omega, hsz⟩ | exact ⟨by omega, hmz⟩ | exact drS_add (by omega) hmz (by show 1 ≤ 64; decide) | exact drS_nil | exact drS_add (xs := []) (by decide) drS_nil.2 (by show 1 ≤ 64; decide)), (by first | omega | assumption | rfl | exact hs0.1 | exact hs0.2.1 | (simp only [*]; done) | exact ⟨by omega, hsz⟩ | exact ⟨by omega, hmz⟩ | exact drS_add (by omega) hmz (by show 1 ≤ 64; decide) | exact drS_nil | exact drS_add (xs := []) (by decide) drS_nil.2 (by show 1 ≤ 64; decide)), trivial⟩) (⟨.inl rfl, trivial⟩) (.tup [agPerceptronT v_1, .arr 31]) (by kernel_rfl) (.inr ⟨⟨⟨(fun _ => rfl), rfl, rfl, fun i _ => .inl rfl⟩, ⟨⟨(fun _ => rfl), rfl, rfl, fun i _ => .inl rfl⟩, rfl⟩⟩, ⟨⟨(fun _ => rfl), rfl, (by first | rfl | (simp; done) | (simp; omega) | omega), fun i_ hi_ => cat_le (enc := (cSample true)) (xs := ([] : List Sample)) (x := (Sample.mk (⟨#[97]⟩ : ByteArray) ([] : List Feat))) (g := (litF [Sv (⟨#[97]⟩ : ByteArray), nilA] 2)) ⟨rfl, ⟨rfl, ⟨⟨rfl, rfl⟩, rfl⟩⟩⟩ i_ hi_⟩, rfl⟩⟩) (fun _ => rfl) (fun _ => (by simp [tagged, taggedL, tagLI, tagS, tagSample]))
    refine x_r [(0, .dec false)] [0, 4, 6, 7, 17, 26] [4, 6, 11, 7001] [.ref 7001 0, .ref 4 0, .ref 6 0, .arr 11, I v_6, Bv false] [some (.box [nilA, nilA]), some (bxPerceptronT v_1), some (.arr 2 (([] : List Sample).length) (fSample true ([] : List Sample))), some (bxl00Src s'_6)] [¬ (v_6 = 1)] ⟨h7, trivial⟩ ?_
    refine xe_then ?_
    refine x_false rfl ?_
    refine x_seq ?_
    by_cases h8 : v_6 = 2
    ·refine x_r [(0, .dec true)] [0, 4, 6, 7, 32] [4, 6, 11, 7001] [.ref 7001 0, .ref 4 0, .ref 6 0, .arr 11, Bv true] [some (.box [nilA, nilA]), some (bxPerceptronT v_1), some (.arr 2 (([] : List Sample).length) (fSample true ([] : List Sample))), some (bxl00Src s'_6)] [v_6 = 2] ⟨h8, trivial⟩ ?_
     refine xe_then ?_
     refine x_true rfl ?_
     refine xR [(0, .call [(false, .ptr false [slS false v_1.Labels, slLI false v_1.Weights])] true (Bv false))] [0, 4, 6, 7, 34] [4, 6, 11, 7001] [.ref 7001 0, .ref 4 0, .ref 6 0, .arr 11, Bv false] [some (.box [nilA, nilA]), some (bxPerceptronT v_1), some (.arr 2 (([] : List Sample).length) (fSample true ([] : List Sample))), some (bxl00Src s'_6)] [Con Try.prog 38 [.ptr false [slS false v_1.Labels, slLI false v_1.Weights]] true (Bv false) ∧ ((false = true → true = true) ∧ AV.idsL [slS false v_1.Labels, slLI false v_1.Weights] = [] ∧ ((false = true → true = true) ∧ 1 = 1 ∧ v_1.Labels.length = v_1.Labels.length ∧ ∀ i_, i_ < v_1.Labels.length → (fS v_1.Labels) i_ = (fS v_1.Labels) i_ ∨ (AV.idsL ((fS v_1.Labels) i_) = [] ∧ leL (fun _ => none) false ((fS v_1.Labels) i_) ((fS v_1.Labels) i_))) ∧ ((false = true → true = true) ∧ 1 = 1 ∧ v_1.Weights.length = v_1.Weights.length ∧ ∀ i_, i_ < v_1.Weights.length → (fLI true v_1.Weights) i_ = (fLI false v_1.Weights) i_ ∨ (AV.idsL ((fLI false v_1.Weights) i_) = [] ∧ leL (fun _ => none) false ((fLI true v_1.Weights) i_) ((fLI false v_1.Weights) i_))) ∧ ([] : List AV) = []) ∧ True] ⟨⟨(con_bool h1 (l12Ok_ok v_1 (fun y hy => by have := hdp.2.1 y hy; omega))), ⟨(fun h => by cases h), rfl, ⟨⟨(fun h => by cases h), rfl, rfl, fun i _ => .inl rfl⟩, ⟨⟨(fun h => by cases h), rfl, rfl, fun i _ => .inr ⟨idsLI _ _, leLI _ _ _⟩⟩, rfl⟩⟩⟩, trivial⟩, trivial⟩ ?_
     refine x_false rfl ?_
     refine x_skip ?_
     refine xe_block 0 ?_
     refine xe_then ?_
     refine xR [] [4, 5] [4, 11, 7001] [.ref 4 0, .arr 11] [some (bxPerceptronT v_1), some (.arr 2 (([] : List Sample).length) (fSample true ([] : List Sample))), some (bxl00Src s'_6)] [] trivial ?_
     refine x_ret ?_
     refine xe_end (v_1, ([] : List Sample), s'_6) (show (okSrc s'_6) ∧ (s'_6.code = s.code) ∧ (s.atx + 0 ≤ s'_6.atx ∧ s'_6.atx ≤ s.atx + 2500) ∧ (drP v_1) ∧ (drS ([] : List Sample)) ∧ (True) from ⟨(by first | omega | assumption | rfl | exact hs0.1 | exact hs0.2.1 | (simp only [*]; done) | exact ⟨by omega, hsz⟩ | exact ⟨by omega, hmz⟩ | exact drS_add (by omega) hmz (by show 1 ≤ 64; decide) | exact drS_nil | exact drS_add (xs := []) (by decide) drS_nil.2 (by show 1 ≤ 64; decide)), (by first | omega | assumption | rfl | exact hs0.1 | exact hs0.2.1 | (simp only [*]; done) | exact ⟨by omega, hsz⟩ | exact ⟨by omega, hmz⟩ | exact drS_add (by omega) hmz (by show 1 ≤ 64; decide) | exact drS_nil | exact drS_add (xs := []) (by decide) drS_nil.2 (by show 1 ≤ 64; decide)), (by first | omega | assumption | rfl | exact hs0.1 | exact hs0.2.1 | (simp only [*]; done) | exact ⟨by omega, hsz⟩ | exact ⟨by omega, hmz⟩ | exact drS_add (by omega) hmz (by show 1 ≤ 64; decide) | exact drS_nil | exact drS_add (xs := []) (by decide) drS_nil.2 (by show 1 ≤ 64; decide)), (by first | omega | assumption | rfl | exact hs0.1 | exact hs0.2.1 | (simp only [*]; done) | exact ⟨by omega, hsz⟩ | exact ⟨by omega, hmz⟩ | exact drS_add (by omega) hmz (by show 1 ≤ 64; decide) | exact drS_nil | exact drS_add (xs := []) (by decide) drS_nil.2 (by show 1 ≤ 64; decide)), (by first | omega | assumption | rfl | exact hs0.1 | exact hs0.2.1 | (simp only [*]; done) | exact ⟨by omega, hsz⟩ | exact ⟨by omega, hmz⟩ | exact drS_add (by omega) hmz (by show 1 ≤ 64; decide) | exact drS_nil | exact drS_add (xs := []) (by decide) drS_nil.2 (by show 1 ≤ 64; decide)), trivial⟩) (⟨.inl rfl, trivial⟩) (.tup [agPerceptronT v_1, .arr 11]) (by kernel_rfl) (.inr ⟨⟨⟨(fun _ => rfl), rfl, rfl, fun i _ => .inl rfl⟩, ⟨⟨(fun _ => rfl), rfl, rfl, fun i _ => .inl rfl⟩, rfl⟩⟩, ⟨⟨(fun _ => rfl), rfl, rfl, fun i _ => .inl rfl⟩, rfl⟩⟩) (fun _ => rfl) (fun _ => (by simp [tagged, taggedL, tagLI, tagS, tagSample]))
    refine x_r [(0, .dec false)] [0, 4, 6, 7, 32] [4, 6, 11, 7001] [.ref 7001 0, .ref 4 0, .ref 6 0, .arr 11, Bv false] [some (.box [nilA, nilA]), some (bxPerceptronT v_1), some (.arr 2 (([] : List Sample).length) (fSample true ([] : List Sample))), some (bxl00Src s'_6)] [¬ (v_6 = 2)] ⟨h8, trivial⟩ ?_
    refine xe_then ?_
    refine x_false rfl ?_
    refine x_skip ?_
    refine xe_block 0 ?_
    refine xe_then ?_
    refine xR [] [4, 5] [4, 11, 7001] [.ref 4 0, .arr 11] [some (bxPerceptronT v_1), some (.arr 2 (([] : List Sample).length) (fSample true ([] : List Sample))), some (bxl00Src s'_6)] [] trivial ?_
    refine x_ret ?_
    refine xe_end (v_1, ([] : List Sample), s'_6) (show (okSrc s'_6) ∧ (s'_6.code = s.code) ∧ (s.atx + 0 ≤ s'_6.atx ∧ s'_6.atx ≤ s.atx + 2500) ∧ (drP v_1) ∧ (drS ([] : List Sample)) ∧ (True) from ⟨(by first | omega | assumption | rfl | exact hs0.1 | exact hs0.2.1 | (simp only [*]; done) | exact ⟨by omega, hsz⟩ | exact ⟨by omega, hmz⟩ | exact drS_add (by omega) hmz (by show 1 ≤ 64; decide) | exact drS_nil | exact drS_add (xs := []) (by decide) drS_nil.2 (by show 1 ≤ 64; decide)), (by first | omega | assumption | rfl | exact hs0.1 | exact hs0.2.1 | (simp only [*]; done) | exact ⟨by omega, hsz⟩ | exact ⟨by omega, hmz⟩ | exact drS_add (by omega) hmz (by show 1 ≤ 64; decide) | exact drS_nil | exact drS_add (xs := []) (by decide) drS_nil.2 (by show 1 ≤ 64; decide)), (by first | omega | assumption | rfl | exact hs0.1 | exact hs0.2.1 | (simp only [*]; done) | exact ⟨by omega, hsz⟩ | exact ⟨by omega, hmz⟩ | exact drS_add (by omega) hmz (by show 1 ≤ 64; decide) | exact drS_nil | exact drS_add (xs := []) (by decide) drS_nil.2 (by show 1 ≤ 64; decide)), (by first | omega | assumption | rfl | exact hs0.1 | exact hs0.2.1 | (simp only [*]; done) | exact ⟨by omega, hsz⟩ | exact ⟨by omega, hmz⟩ | exact drS_add (by omega) hmz (by show 1 ≤ 64; decide) | exact drS_nil | exact drS_add (xs := []) (by decide) drS_nil.2 (by show 1 ≤ 64; decide)), (by first | omega | assumption | rfl | exact hs0.1 | exact hs0.2.1 | (simp only [*]; done) | exact ⟨by omega, hsz⟩ | exact ⟨by omega, hmz⟩ | exact drS_add (by omega) hmz (by show 1 ≤ 64; decide) | exact drS_nil | exact drS_add (xs := []) (by decide) drS_nil.2 (by show 1 ≤ 64; decide)), trivial⟩) (⟨.inl rfl, trivial⟩) (.tup [agPerceptronT v_1, .arr 11]) (by kernel_rfl) (.inr ⟨⟨⟨(fun _ => rfl), rfl, rfl, fun i _ => .inl rfl⟩, ⟨⟨(fun _ => rfl), rfl, rfl, fun i _ => .inl rfl⟩, rfl⟩⟩, ⟨⟨(fun _ => rfl), rfl, rfl, fun i _ => .inl rfl⟩, rfl⟩⟩) (fun _ => rfl) (fun _ => (by simp [tagged, taggedL, tagLI, tagS, tagSample]))
  obtain ⟨⟨v, w, s'⟩, ⟨hh0, hh1, hh2, hh3, hh4, _⟩, hc⟩ := hh
  exact ⟨v, w, s', hh0, hh1, hh2, hh3, hh4, hc⟩


-- spec.DrawTrain
theorem DrawTrain_ok (code : List Int) (hc : (∀ j, j < code.length → 0 ≤ at_ code j ∧ at_ code j ≤ 255) ∧ code.length ≤ 4611686018427387904) : ∃ (p : Perceptron) (list : List Sample) (n : Int), (drP p) ∧ (drS list) ∧ Con Try.prog 20 [slU8 false code] true (.tup [agPerceptronT p, slSample true list, I n]) := by
  have hh : ∃ r : Perceptron × (List Sample) × Int, ((drP r.1) ∧ (drS r.2.1) ∧ (True)) ∧ CallOK Try.prog 20 [slU8 false code] (lookO []) true (.tup [agPerceptronT r.1, slSample true r.2.1, I r.2.2]) (lookO []) := by
    refine fn_okX (Φ := fun r : Perceptron × (List Sample) × Int => (drP r.1) ∧ (drS r.2.1) ∧ (True)) [] (fun r => []) (fn := Try.f20) (nt := 26) Try.func20 rfl rfl (args := [slU8 false code]) rfl (allcons (.inl ⟨rfl, tagU8 false _⟩) allnil) (res := fun r => .tup [agPerceptronT r.1, slSample true r.2.1, I r.2.2]) ?_
    refine xR [(0, .new 2)] [0, 2] [2] [slU8 false code, .ref 2 0] [some (.box [nilA, nilA])] [] trivial ?_
    refine x_seq ?_
    obtain ⟨s'_1, hx1_0, hc1⟩ := l00From_ok code
    have hsrc : okSrc s'_1 := ⟨by rw [hx1_0.1]; exact hc.1, by rw [hx1_0.2]; decide, by rw [hx1_0.1]; exact hc.2⟩
    have hat0 := hx1_0.2
    refine x_r [(1, .lend [] [(7001, bxl00Src s'_1)] [(true, .any)] false (.ref 7001 0))] [2, 5] [2, 7001] [.ref 2 0, .ref 7001 0] [some (.box [nilA, nilA]), some (bxl00Src s'_1)] [CallOK Try.prog 28 [slU8 false code] (lookO []) false (.ref 7001 0) (lookO [(7001, bxl00Src s'_1)]) ∧ True] ⟨⟨hc1, trivial⟩, trivial⟩ ?_
    refine xe_then ?_
    refine x_seq ?_
    obtain ⟨v_2, w_2, s'_2, hx2_0, hx2_1, hx2_2, hx2_3, hx2_4, hc2⟩ := l12All_ok s'_1 6 (by first | assumption | (simp only [okSrc] at *; simp_all; done)) (by omega) (by omega)
    refine x_r [(1, .lend [(7001, bxl00Src s'_1, bxl00Src s'_2)] [] [(true, .any), (true, .any)] true (.tup [agPerceptronT v_2, slSample true w_2])), (5, .new 6)] [2, 5, 6, 7] [2, 6, 7001] [.ref 2 0, .ref 7001 0, .ref 6 0, slSample true w_2] [some (.box [nilA, nilA]), some (bxPerceptronT v_2), some (bxl00Src s'_2)] [CallOK Try.prog 57 [.ref 7001 0, I 6] (lookO [(7001, bxl00Src s'_1)]) true (.tup [agPerceptronT v_2, slSample true w_2]) (lookO [(7001, bxl00Src s'_2)]) ∧ (((bxl00Src s'_1 : Ob) = bxl00Src s'_1 ∨ obLe noOb true (bxl00Src s'_1) (bxl00Src s'_1)) ∧ taggedO false (bxl00Src s'_1)) ∧ True] ⟨⟨hc2, ⟨.inl rfl, (by simp [taggedO, taggedL, tagged, tagU8])⟩, trivial⟩, trivial⟩ ?_
    refine xe_then ?_
    refine x_seq ?_
    obtain ⟨v_3, s'_3, hx3_0, hx3_1, hx3_2, hx3_3, hc3⟩ := pick_ok s'_2 7 (by first | assumption | (simp only [okSrc] at *; simp_all; done)) (by omega)
    refine x_r [(1, .lend [(7001, bxl00Src s'_2, bxl00Src s'_3)] [] [(true, .any), (true, .any)] true (I v_3))] [2, 5, 6, 7, 8] [2, 6, 7001] [.ref 2 0, .ref 7001 0, .ref 6 0, slSample true w_2, I v_3] [some (.box [nilA, nilA]), some (bxPerceptronT v_2), some (bxl00Src s'_3)] [CallOK Try.prog 32 [.ref 7001 0, I 7] (lookO [(7001, bxl00Src s'_2)]) true (I v_3) (lookO [(7001, bxl00Src s'_3)]) ∧ (((bxl00Src s'_2 : Ob) = bxl00Src s'_2 ∨ obLe noOb true (bxl00Src s'_2) (bxl00Src s'_2)) ∧ taggedO false (bxl00Src s'_2)) ∧ True] ⟨⟨hc3, ⟨.inl rfl, (by simp [taggedO, taggedL, tagged, tagU8])⟩, trivial⟩, trivial⟩ ?_
    refine xe_then ?_
    refine x_seq ?_
    refine x_seq ?_
    obtain ⟨v_4, s'_4, hx4_0, hx4_1, hx4_2, hc4⟩ := one_ok s'_3 10 (by first | assumption | (simp only [okSrc] at *; simp_all; done)) (by omega)
    rcases Bool.eq_false_or_eq_true v_4 with h1 | h1
    ·subst h1
     refine x_r [(1, .lend [(7001, bxl00Src s'_3, bxl00Src s'_4)] [] [(true, .any), (true, .any)] true (Bv true))] [2, 5, 6, 7, 8, 19] [2, 6, 7001] [.ref 2 0, .ref 7001 0, .ref 6 0, slSample true w_2, I v_3, Bv true] [some (.box [nilA, nilA]), some (bxPerceptronT v_2), some (bxl00Src s'_4)] [CallOK Try.prog 30 [.ref 7001 0, I 10] (lookO [(7001, bxl00Src s'_3)]) true (Bv true) (lookO [(7001, bxl00Src s'_4)]) ∧ (((bxl00Src s'_3 : Ob) = bxl00Src s'_3 ∨ obLe noOb true (bxl00Src s'_3) (bxl00Src s'_3)) ∧ taggedO false (bxl00Src s'_3)) ∧ True] ⟨⟨hc4, ⟨.inl rfl, (by simp [taggedO, taggedL, tagged, tagU8])⟩, trivial⟩, trivial⟩ ?_
     refine xe_then ?_
     refine x_true rfl ?_
     obtain ⟨v_5, s'_5, hx5_0, hx5_1, hx5_2, hx5_3, hc5⟩ := among_ok s'_4 ([(-1), 0, 20, 21]) (by first | assumption | (simp only [okSrc] at *; simp_all; done)) (by omega) (by simp)
     refine x_r [(1, .new 21), (2, .lend [(7001, bxl00Src s'_4, bxl00Src s'_5)] [] [(true, .any), (false, slI false ([(-1), 0, 20, 21]))] true (I v_5))] [2, 6, 7, 8] [2, 6] [.ref 2 0, .ref 6 0, slSample true w_2, I v_5] [some (.box [nilA, nilA]), some (bxPerceptronT v_2)] [CallOK Try.prog 58 [.ref 7001 0, slI false ([(-1), 0, 20, 21])] (lookO [(7001, bxl00Src s'_4)]) true (I v_5) (lookO [(7001, bxl00Src s'_5)]) ∧ ((false = true → true = true) ∧ 1 = 1 ∧ 4 = (([(-1), 0, 20, 21]).length) ∧ ∀ i_, i_ < (([(-1), 0, 20, 21]).length) → (litF [I (-1), I 0, I 20, I 21] 1) i_ = (fI ([(-1), 0, 20, 21])) i_ ∨ (AV.idsL ((fI ([(-1), 0, 20, 21])) i_) = [] ∧ leL (fun _ => none) false ((litF [I (-1), I 0, I 20, I 21] 1) i_) ((fI ([(-1), 0, 20, 21])) i_))) ∧ (((bxl00Src s'_4 : Ob) = bxl00Src s'_4 ∨ obLe noOb true (bxl00Src s'_4) (bxl00Src s'_4)) ∧ taggedO false (bxl00Src s'_4)) ∧ True] ⟨⟨hc5, ⟨(fun h => by cases h), rfl, (by first | rfl | (simp; done) | (simp; omega) | omega), fun i_ hi_ => .inl (match i_, hi_ with | 0, _ => rfl | 1, _ => rfl | 2, _ => rfl | 3, _ => rfl | (i + 4), h => absurd h (by simp))⟩, ⟨.inl rfl, (by simp [taggedO, taggedL, tagged, tagU8])⟩, trivial⟩, trivial⟩ ?_
     refine xe_then ?_
     refine xR [] [2, 3, 4] [2] [.ref 2 0, slSample true w_2, I v_5] [some (bxPerceptronT v_2)] [] trivial ?_
     refine x_ret ?_
     refine xe_end (v_2, w_2, v_5) (show (drP v_2) ∧ (drS w_2) ∧ (True) from ⟨(by first | assumption | omega), (by first | assumption | omega), trivial⟩) (trivial) (.tup [agPerceptronT v_2, slSample true w_2, I v_5]) (by kernel_rfl) (.inl rfl) (fun _ => rfl) (fun _ => (by simp [tagged, taggedL, tagLI, tagS, tagSample]))
    subst h1
    refine x_r [(1, .lend [(7001, bxl00Src s'_3, bxl00Src s'_4)] [] [(true, .any), (true, .any)] true (Bv false))] [2, 5, 6, 7, 8, 19] [2, 6, 7001] [.ref 2 0, .ref 7001 0, .ref 6 0, slSample true w_2, I v_3, Bv false] [some (.box [nilA, nilA]), some (bxPerceptronT v_2), some (bxl00Src s'_4)] [CallOK Try.prog 30 [.ref 7001 0, I 10] (lookO [(7001, bxl00Src s'_3)]) true (Bv false) (lookO [(7001, bxl00Src s'_4)]) ∧ (((bxl00Src s'_3 : Ob) = bxl00Src s'_3 ∨ obLe noOb true (bxl00Src s'_3) (bxl00Src s'_3)) ∧ taggedO false (bxl00Src s'_3)) ∧ True] ⟨⟨hc4, ⟨.inl rfl, (by simp [taggedO, taggedL, tagged, tagU8])⟩, trivial⟩, trivial⟩ ?_
    refine xe_then ?_
    refine x_false rfl ?_
    refine x_skip ?_
    refine xe_then ?_
    refine xR [] [2, 3, 4] [2] [.ref 2 0, slSample true w_2, I v_3] [some (bxPerceptronT v_2)] [] trivial ?_
    refine x_ret ?_
    refine xe_end (v_2, w_2, v_3) (show (drP v_2) ∧ (drS w_2) ∧ (True) from ⟨(by first | assumption | omega), (by first | assumption | omega), trivial⟩) (trivial) (.tup [agPerceptronT v_2, slSample true w_2, I v_3]) (by kernel_rfl) (.inl rfl) (fun _ => rfl) (fun _ => (by simp [tagged, taggedL, tagLI, tagS, tagSample]))
  obtain ⟨⟨p, list, n⟩, ⟨hh0, hh1, _⟩, hc⟩ := hh
  exact ⟨p, list, n, hh0, hh1, hc⟩


-- impl.isLetter
theorem isLetter_ok (c : Int) : Con Try.prog 100 [.val (.int .u8 c)] true (Bv (inB c 97 122)) := by
  refine fn_ok (fn := Try.f100) (nt := 9) Try.func100 rfl rfl rfl rfl (by simp [taggedL, tagged]) fun B hB => ?_
  refine aR [] [0] [] [.val (.int .u8 c)] [] [] hB trivial ?_
  refine aw_seq ?_
  by_cases h1 : 97 ≤ c
  ·refine aw_r [(1, .dec true)] [2] [] [Bv (decide (c ≤ 122))] [] [97 ≤ c] hB ⟨h1, trivial⟩ ?_
   refine ae_then ?_
   refine aw_ret ?_
   refine ae_ret hB (Bv (decide (c ≤ 122))) (by kernel_rfl) (.inl (by first | rfl | (refine congrArg Bv ?_; simp [inB, *]; done) | (refine congrArg Bv ?_; simp [inB, *]; omega) | (refine congrArg Bv ?_; simp_all [inB]; done) | (refine congrArg Bv ?_; simp_all [inB]; omega))) rfl (fun _ => trivial)
  refine aw_r [(1, .dec false)] [2] [] [Bv false] [] [¬ (97 ≤ c)] hB ⟨h1, trivial⟩ ?_
  refine ae_then ?_
  refine aw_ret ?_
  refine ae_ret hB (Bv false) (by kernel_rfl) (.inl (by first | rfl | (refine congrArg Bv ?_; simp [inB, *]; done) | (refine congrArg Bv ?_; simp [inB, *]; omega) | (refine congrArg Bv ?_; simp_all [inB]; done) | (refine congrArg Bv ?_; simp_all [inB]; omega))) rfl (fun _ => trivial)


/-- Whether a byte occurs. -/
def hasB (s : ByteArray) (n : Int) : Bool := s.data.toList.any fun x => decide ((x.toNat : Int) = n)
theorem one_byte {t : ByteArray} (h : t.size = 1) : ∃ c, t = ⟨#[c]⟩ := by
  obtain ⟨⟨l⟩⟩ := t
  cases l with
  | nil => cases h
  | cons c l =>
    cases l with
    | nil => exact ⟨c, rfl⟩
    | cons d l => simp [ByteArray.size] at h
theorem has_index (l : List UInt8) (c : UInt8) : decide (0 ≤ Lib.indexByte l c) = l.any fun x => decide ((x.toNat : Int) = bAt ⟨#[c]⟩ 0) := by
  rw [← Lib.contains_iff_indexByte, Bool.eq_iff_iff]
  simp [bAt, List.contains_iff_mem]
  constructor
  · intro h; exact ⟨c, h, rfl⟩
  · rintro ⟨x, hx, e⟩
    have : x = c := UInt8.toNat_inj.1 (by omega)
    exact this ▸ hx

-- strings.Contains
theorem contains_ok (s t : ByteArray) (h : t.size = 1) : Con Try.prog 101 [Sv s, Sv t] true (Bv (hasB s (bAt t 0))) := by
  obtain ⟨c, rfl⟩ := one_byte h
  refine con_of_calls (vals := [.string s, .string ⟨#[c]⟩]) fun w _ => ?_
  refine (Try.strings_Contains_one s c w).mono ?_
  rintro e w' ⟨rfl, rfl⟩
  refine ⟨?_, Below.refl _ _⟩
  simp only [has_index, hasB]


-- impl.IsLabel
theorem implIsLabel_ok (s : ByteArray) (ok : s.size ≤ 9223372036854775807) : Con Try.prog 77 [Sv s] true (Bv (okLabel s)) := by
  refine fn_ok (fn := Try.f77) (nt := 15) Try.func77 rfl rfl rfl rfl (by simp [taggedL, tagged]) fun B hB => ?_
  refine aR [] [0] [] [Sv s] [] [] hB trivial ?_
  refine aw_seq ?_
  by_cases h1 : (s.size : Int) = 1
  ·rcases Bool.eq_false_or_eq_true (inB (bAt s 0) 97 122) with h2 | h2
   ·refine aw_r [(2, .dec true), (6, .call [(true, .any)] true (Bv true))] [2] [] [Bv true] [] [(s.size : Int) = 1, (0 : Int) ≤ 0 ∧ 0 < (s.size : Int), Con Try.prog 100 [.val (.int .u8 (bAt s 0))] true (Bv true) ∧ True] hB ⟨h1, ⟨(by omega), (by omega)⟩, ⟨(con_bool h2 (isLetter_ok (bAt s 0))), trivial⟩, trivial⟩ ?_
    refine ae_then ?_
    refine aw_ret ?_
    refine ae_ret hB (Bv true) (by kernel_rfl) (.inl (by first | (refine congrArg Bv ?_; simp_all [okLabel, labB, inB]; done) | (refine congrArg Bv ?_; have hbd := bAt_bd s 0; rw [Bool.eq_iff_iff]; simp_all [okLabel, hasB, labB, inB]; omega))) rfl (fun _ => trivial)
   refine aw_r [(2, .dec true), (6, .call [(true, .any)] true (Bv false)), (9, .call [(true, .any), (true, .any)] true (Bv (hasB (⟨#[48, 49, 50, 51, 52, 53, 54, 55, 56, 57, 43, 45, 42, 47, 61, 40, 41, 46, 44]⟩ : ByteArray) (bAt s 0))))] [2] [] [Bv (hasB (⟨#[48, 49, 50, 51, 52, 53, 54, 55, 56, 57, 43, 45, 42, 47, 61, 40, 41, 46, 44]⟩ : ByteArray) (bAt s 0))] [] [(s.size : Int) = 1, (0 : Int) ≤ 0 ∧ 0 < (s.size : Int), Con Try.prog 100 [.val (.int .u8 (bAt s 0))] true (Bv false) ∧ True, Con Try.prog 101 [Sv (⟨#[48, 49, 50, 51, 52, 53, 54, 55, 56, 57, 43, 45, 42, 47, 61, 40, 41, 46, 44]⟩ : ByteArray), Sv s] true (Bv (hasB (⟨#[48, 49, 50, 51, 52, 53, 54, 55, 56, 57, 43, 45, 42, 47, 61, 40, 41, 46, 44]⟩ : ByteArray) (bAt s 0))) ∧ True] hB ⟨h1, ⟨(by omega), (by omega)⟩, ⟨(con_bool h2 (isLetter_ok (bAt s 0))), trivial⟩, ⟨(contains_ok (⟨#[48, 49, 50, 51, 52, 53, 54, 55, 56, 57, 43, 45, 42, 47, 61, 40, 41, 46, 44]⟩ : ByteArray) s (by omega)), trivial⟩, trivial⟩ ?_
   refine ae_then ?_
   refine aw_ret ?_
   refine ae_ret hB (Bv (hasB (⟨#[48, 49, 50, 51, 52, 53, 54, 55, 56, 57, 43, 45, 42, 47, 61, 40, 41, 46, 44]⟩ : ByteArray) (bAt s 0))) (by kernel_rfl) (.inl (by first | (refine congrArg Bv ?_; simp_all [okLabel, labB, inB]; done) | (refine congrArg Bv ?_; have hbd := bAt_bd s 0; rw [Bool.eq_iff_iff]; simp_all [okLabel, hasB, labB, inB]; omega))) rfl (fun _ => trivial)
  refine aw_r [(2, .dec false)] [2] [] [Bv false] [] [¬ ((s.size : Int) = 1)] hB ⟨h1, trivial⟩ ?_
  refine ae_then ?_
  refine aw_ret ?_
  refine ae_ret hB (Bv false) (by kernel_rfl) (.inl (by first | (refine congrArg Bv ?_; simp_all [okLabel, labB, inB]; done) | (refine congrArg Bv ?_; have hbd := bAt_bd s 0; rw [Bool.eq_iff_iff]; simp_all [okLabel, hasB, labB, inB]; omega))) rfl (fun _ => trivial)

end Go.Proofs.Ytblhhmcplocepaa.Ax
