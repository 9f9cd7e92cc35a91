/- The statement FnGapLimits: contracts of what it reaches, and its proof. No conditions. -/
import Derived.Test.YtoifonocjfhinaaAxLGapLimits1
import Derived.Test.YtoifonocjfhinaaAxS
import Derived.Test.YtoifonocjfhinaaSortShelf
namespace Go.Proofs.Ytoifonocjfhinaa.Ax
open Go.RowKit Go.ChangeShapes Go.WideShapes
set_option linter.unusedVariables false
set_option linter.unusedSimpArgs false


-- spec.l19Put
theorem l19Put_ok (boxes : List Box) (list : List Int) (k : Int) (high : Bool) (hl : list.length ≤ 1000) (hk : 0 ≤ k ∧ k < (boxes.length : Int)) (hx : ixIn boxes.length list) : ∃ (out : List Int), (out.length = list.length + 1) ∧ (ixIn boxes.length out) ∧ CallOK Try.prog 148 [slBox false boxes, slI false list, I k, Bv high] (lookO []) false (.arr 8221) (lookO [(8221, .arr 1 out.length (fI out))]) := by
  have hh : ∃ r : (List Int), ((r.length = list.length + 1) ∧ (ixIn boxes.length r) ∧ (True)) ∧ CallOK Try.prog 148 [slBox false boxes, slI false list, I k, Bv high] (lookO []) false (.arr 8221) (lookO [(8221, .arr 1 r.length (fI r))]) := by
    refine fn_okX (Φ := fun r : (List Int) => (r.length = list.length + 1) ∧ (ixIn boxes.length r) ∧ (True)) [] (fun r => [(8221, .arr 1 r.length (fI r))]) (fn := Try.f148) (nt := 49) Try.func148 rfl rfl (args := [slBox false boxes, slI false list, I k, Bv high]) rfl (allcons (.inl ⟨rfl, tagBox false _⟩) (allcons (.inl ⟨rfl, tagI false _⟩) (allcons (.inl ⟨rfl, trivial⟩) (allcons (.inl ⟨rfl, trivial⟩) allnil)))) (res := fun r => .arr 8221) ?_
    refine x_seq ?_
    refine x_reg [] [0, 1, 2, 3] [] [slBox false boxes, slI false list, I k, Bv high] [] [] (by kernel_rfl) trivial ?_
    refine xe_then ?_
    refine x_seq ?_
    refine x_reg [] [0, 1, 2, 3, 9] [] [slBox false boxes, slI false list, I k, Bv high, I (list.length : Int)] [] [] (by kernel_rfl) trivial ?_
    refine xe_then ?_
    refine x_seq ?_
    refine x_block ?_
    refine x_loop (X := Int) (fun x => mkS [(0, slBox false boxes), (1, slI false list), (2, I k), (3, Bv high), (9, I x)] []) (fun x => (0 ≤ x ∧ x ≤ (list.length : Int)) ∧ True) (fun x => x.toNat) (list.length : Int) rfl (show (0 ≤ (list.length : Int) ∧ (list.length : Int) ≤ (list.length : Int)) ∧ True from ⟨(by omega), trivial⟩) (fun x hI => ?_)
    obtain ⟨at_x, hxx⟩ : ∃ at_x : Int, at_x = x := ⟨x, rfl⟩
    subst hxx
    obtain ⟨hat, _⟩ : (0 ≤ at_x ∧ at_x ≤ (list.length : Int)) ∧ True := hI
    show XW _ _ _ _ (mkS [(0, slBox false boxes), (1, slI false list), (2, I k), (3, Bv high), (9, I at_x)] []) _ _
    refine x_seq ?_
    refine x_seq ?_
    by_cases h1 : 0 < at_x
    ·refine x_reg [(1, .dec true)] [0, 1, 2, 3, 9, 15] [] [slBox false boxes, slI false list, I k, Bv high, I at_x, Bv true] [] [0 < at_x] (by kernel_rfl) ⟨h1, trivial⟩ ?_
     refine xe_then ?_
     refine x_true rfl ?_
     refine x_skip ?_
     refine xe_then ?_
     refine x_block ?_
     refine x_seq ?_
     obtain ⟨v_1, hc1⟩ := l19Left_ok boxes k (at_ list ((at_x - 1).toNat)) (by omega) (ixIn_at hx (by omega))
     rcases Bool.eq_false_or_eq_true v_1 with h2 | h2
     ·subst h2
      refine x_reg [(7, .call [(true, slBox false boxes), (true, I k), (true, I (at_ list ((at_x - 1).toNat)))] true (Bv true))] [0, 1, 2, 3, 9, 10] [] [slBox false boxes, slI false list, I k, Bv high, I at_x, Bv true] [] [inR .i64 (at_x - 1), (0 : Int) ≤ (at_x - 1) ∧ (at_x - 1) < (list.length : Int), Con Try.prog 149 [slBox false boxes, I k, I (at_ list ((at_x - 1).toNat))] true (Bv true) ∧ ((slBox false boxes : AV) = slBox false boxes) ∧ ((I k : AV) = I k) ∧ ((I (at_ list ((at_x - 1).toNat)) : AV) = I (at_ list ((at_x - 1).toNat))) ∧ True] (by kernel_rfl) ⟨(inR_i64 (by omega) (by omega)), ⟨(by omega), (by omega)⟩, ⟨hc1, rfl, rfl, rfl, trivial⟩, trivial⟩ ?_
      refine xe_then ?_
      refine x_seq ?_
      refine x_seq ?_
      refine x_reg [] [0, 1, 2, 3, 9, 10, 24] [] [slBox false boxes, slI false list, I k, Bv high, I at_x, Bv true, Bv high] [] [] (by kernel_rfl) trivial ?_
      refine xe_then ?_
      rcases Bool.eq_false_or_eq_true high with h3 | h3
      ·refine x_true (congrArg Bv h3) ?_
       obtain ⟨v_2, hc2⟩ := l19High_ok boxes k (at_ list ((at_x - 1).toNat)) (by omega) (ixIn_at hx (by omega))
       rcases Bool.eq_false_or_eq_true v_2 with h4 | h4
       ·subst h4
        refine x_reg [(7, .call [(true, slBox false boxes), (true, I k), (true, I (at_ list ((at_x - 1).toNat)))] true (Bv true))] [0, 1, 2, 3, 9, 10] [] [slBox false boxes, slI false list, I k, Bv high, I at_x, Bv true] [] [inR .i64 (at_x - 1), (0 : Int) ≤ (at_x - 1) ∧ (at_x - 1) < (list.length : Int), Con Try.prog 190 [slBox false boxes, I k, I (at_ list ((at_x - 1).toNat))] true (Bv true) ∧ ((slBox false boxes : AV) = slBox false boxes) ∧ ((I k : AV) = I k) ∧ ((I (at_ list ((at_x - 1).toNat)) : AV) = I (at_ list ((at_x - 1).toNat))) ∧ True] (by kernel_rfl) ⟨(inR_i64 (by omega) (by omega)), ⟨(by omega), (by omega)⟩, ⟨hc2, rfl, rfl, rfl, trivial⟩, trivial⟩ ?_
        refine xe_then ?_
        refine x_seq ?_
        refine x_seq ?_
        refine x_reg [] [0, 1, 2, 3, 9, 34] [] [slBox false boxes, slI false list, I k, Bv high, I at_x, Bv false] [] [] (by kernel_rfl) trivial ?_
        refine xe_then ?_
        refine x_false rfl ?_
        refine x_skip ?_
        refine xe_then ?_
        refine x_reg [] [0, 1, 2, 3, 9] [] [slBox false boxes, slI false list, I k, Bv high, I (at_x - 1)] [] [inR .i64 (at_x - 1)] (by kernel_rfl) ⟨(inR_i64 (by omega) (by omega)), trivial⟩ ?_
        refine xe_block 1 ?_
        exact xe_again (at_x - 1) rfl (show (0 ≤ (at_x - 1) ∧ (at_x - 1) ≤ (list.length : Int)) ∧ True from ⟨(by omega), trivial⟩) (by show ((at_x - 1).toNat : Nat) < at_x.toNat; omega)
       ·subst h4
        refine x_reg [(7, .call [(true, slBox false boxes), (true, I k), (true, I (at_ list ((at_x - 1).toNat)))] true (Bv false))] [0, 1, 2, 3, 9, 10] [] [slBox false boxes, slI false list, I k, Bv high, I at_x, Bv false] [] [inR .i64 (at_x - 1), (0 : Int) ≤ (at_x - 1) ∧ (at_x - 1) < (list.length : Int), Con Try.prog 190 [slBox false boxes, I k, I (at_ list ((at_x - 1).toNat))] true (Bv false) ∧ ((slBox false boxes : AV) = slBox false boxes) ∧ ((I k : AV) = I k) ∧ ((I (at_ list ((at_x - 1).toNat)) : AV) = I (at_ list ((at_x - 1).toNat))) ∧ True] (by kernel_rfl) ⟨(inR_i64 (by omega) (by omega)), ⟨(by omega), (by omega)⟩, ⟨hc2, rfl, rfl, rfl, trivial⟩, trivial⟩ ?_
        refine xe_then ?_
        refine x_seq ?_
        refine x_seq ?_
        refine x_reg [] [0, 1, 2, 3, 9, 34] [] [slBox false boxes, slI false list, I k, Bv high, I at_x, Bv true] [] [] (by kernel_rfl) trivial ?_
        refine xe_then ?_
        refine x_true rfl ?_
        refine x_exit ?_
        refine xe_exit_then ?_
        refine xe_exit_other rfl ?_
        refine xe_loop_exit ?_
        refine xe_exit_same ?_
        refine xe_then ?_
        refine x_seq ?_
        obtain ⟨out_3, hx3_0, hc3⟩ := l00Own_ok (list.take at_x.toNat) (by simp only [List.length_take]; omega)
        have hol_out_3 : out_3.length = ((list.take at_x.toNat)).length := by rw [hx3_0]
        simp only [List.length_take, List.length_drop] at hol_out_3
        refine x_reg [(3, .lend [] [(8201, .arr 1 out_3.length (fI out_3))] [(false, slI false (list.take at_x.toNat))] false (.arr 8201)), (5, .new 42), (6, .new 43)] [1, 9, 11] [43] [slI false list, I at_x, .arr 43] [some (.arr 1 (out_3.length + 1) (catF out_3.length (fI out_3) (litF [I k] 1)))] [(0 : Int) ≤ 0 ∧ (0 : Int) ≤ at_x ∧ at_x ≤ (list.length : Int), CallOK Try.prog 79 [slI false (list.take at_x.toNat)] (lookO []) false (.arr 8201) (lookO [(8201, .arr 1 out_3.length (fI out_3))]) ∧ ((false = true → false = true) ∧ 1 = 1 ∧ (at_x.toNat - 0) = ((list.take at_x.toNat).length) ∧ ∀ i, i < ((list.take at_x.toNat).length) → (cutF 0 (fI list)) i = (fI (list.take at_x.toNat)) i ∨ (AV.idsL ((fI (list.take at_x.toNat)) i) = [] ∧ leL (fun _ => none) false ((cutF 0 (fI list)) i) ((fI (list.take at_x.toNat)) i))) ∧ True, (out_3.length + 1) * 8 ≤ 140737488355328] (by kernel_rfl) ⟨⟨(by omega), (by omega), (by omega)⟩, ⟨hc3, ⟨(fun h => by cases h), rfl, (by first | rfl | (simp; done) | (simp; omega) | omega), fun i_ hi_ => .inl (cut_take (enc := cI) hi_)⟩, trivial⟩, (by omega), trivial⟩ ?_
        refine xe_then ?_
        refine x_seq ?_
        refine x_reg [(4, .new 48)] [8] [48] [.arr 48] [some (.arr 1 ((out_3.length + 1) + ((list.length : Int).toNat - at_x.toNat)) (catF (out_3.length + 1) (catF out_3.length (fI out_3) (litF [I k] 1)) (cutF at_x.toNat (fI list))))] [(0 : Int) ≤ at_x ∧ at_x ≤ (list.length : Int) ∧ (list.length : Int) ≤ (list.length : Int), ((out_3.length + 1) + ((list.length : Int).toNat - at_x.toNat)) * 8 ≤ 140737488355328] (by kernel_rfl) ⟨⟨(by omega), (by omega), (by omega)⟩, (by omega), trivial⟩ ?_
        refine xe_then ?_
        refine x_ret ?_
        refine xe_weak [(8221, 48)] (T := [(8, .arr 8221)]) (O := [(8221, .arr 1 (((out_3 ++ [k]) ++ (list.drop at_x.toNat)).length) (fI ((out_3 ++ [k]) ++ (list.drop at_x.toNat))))]) rfl (⟨.inl rfl, trivial⟩) (⟨.inr ⟨rfl, (by first | rfl | (simp; done) | (simp; omega) | omega), fun i_ hi_ => .inl (cat_two (enc := cI) (xs := (out_3 ++ [k])) (ys := (list.drop at_x.toNat)) (by first | rfl | simp) (fun i_ hi_ => (cat_snoc (enc := cI) (xs := out_3) rfl i_ hi_)) (fun i_ hi_ => (cut_drop (enc := cI) hi_)) i_ hi_)⟩, trivial⟩) ?_
        refine xe_end ((out_3 ++ [k]) ++ (list.drop at_x.toNat)) (show (((out_3 ++ [k]) ++ (list.drop at_x.toNat)).length = list.length + 1) ∧ (ixIn boxes.length ((out_3 ++ [k]) ++ (list.drop at_x.toNat))) ∧ (True) from ⟨(by first | (rw [hx1_0]; simp; omega) | (simp only [*]; simp; omega) | (simp only [*]; exact ixIn_put hx hk) | (simp [*]; omega)), (by first | (rw [hx1_0]; simp; omega) | (simp only [*]; simp; omega) | (simp only [*]; exact ixIn_put hx hk) | (simp [*]; omega)), trivial⟩) (⟨.inl rfl, trivial⟩) (.arr 8221) (by kernel_rfl) (.inl rfl) (fun h => by cases h) (fun h => by cases h)
      ·refine x_false (congrArg Bv h3) ?_
       refine x_skip ?_
       refine xe_then ?_
       refine x_seq ?_
       refine x_seq ?_
       refine x_reg [] [0, 1, 2, 3, 9, 34] [] [slBox false boxes, slI false list, I k, Bv high, I at_x, Bv false] [] [] (by kernel_rfl) trivial ?_
       refine xe_then ?_
       refine x_false rfl ?_
       refine x_skip ?_
       refine xe_then ?_
       refine x_reg [] [0, 1, 2, 3, 9] [] [slBox false boxes, slI false list, I k, Bv high, I (at_x - 1)] [] [inR .i64 (at_x - 1)] (by kernel_rfl) ⟨(inR_i64 (by omega) (by omega)), trivial⟩ ?_
       refine xe_block 1 ?_
       exact xe_again (at_x - 1) rfl (show (0 ≤ (at_x - 1) ∧ (at_x - 1) ≤ (list.length : Int)) ∧ True from ⟨(by omega), trivial⟩) (by show ((at_x - 1).toNat : Nat) < at_x.toNat; omega)
     ·subst h2
      refine x_reg [(7, .call [(true, slBox false boxes), (true, I k), (true, I (at_ list ((at_x - 1).toNat)))] true (Bv false))] [0, 1, 2, 3, 9, 10] [] [slBox false boxes, slI false list, I k, Bv high, I at_x, Bv false] [] [inR .i64 (at_x - 1), (0 : Int) ≤ (at_x - 1) ∧ (at_x - 1) < (list.length : Int), Con Try.prog 149 [slBox false boxes, I k, I (at_ list ((at_x - 1).toNat))] true (Bv false) ∧ ((slBox false boxes : AV) = slBox false boxes) ∧ ((I k : AV) = I k) ∧ ((I (at_ list ((at_x - 1).toNat)) : AV) = I (at_ list ((at_x - 1).toNat))) ∧ True] (by kernel_rfl) ⟨(inR_i64 (by omega) (by omega)), ⟨(by omega), (by omega)⟩, ⟨hc1, rfl, rfl, rfl, trivial⟩, trivial⟩ ?_
      refine xe_then ?_
      refine x_seq ?_
      refine x_seq ?_
      refine x_reg [] [0, 1, 2, 3, 9, 10, 24] [] [slBox false boxes, slI false list, I k, Bv high, I at_x, Bv false, Bv high] [] [] (by kernel_rfl) trivial ?_
      refine xe_then ?_
      rcases Bool.eq_false_or_eq_true high with h5 | h5
      ·refine x_true (congrArg Bv h5) ?_
       obtain ⟨v_4, hc4⟩ := l19High_ok boxes k (at_ list ((at_x - 1).toNat)) (by omega) (ixIn_at hx (by omega))
       rcases Bool.eq_false_or_eq_true v_4 with h6 | h6
       ·subst h6
        refine x_reg [(7, .call [(true, slBox false boxes), (true, I k), (true, I (at_ list ((at_x - 1).toNat)))] true (Bv true))] [0, 1, 2, 3, 9, 10] [] [slBox false boxes, slI false list, I k, Bv high, I at_x, Bv true] [] [inR .i64 (at_x - 1), (0 : Int) ≤ (at_x - 1) ∧ (at_x - 1) < (list.length : Int), Con Try.prog 190 [slBox false boxes, I k, I (at_ list ((at_x - 1).toNat))] true (Bv true) ∧ ((slBox false boxes : AV) = slBox false boxes) ∧ ((I k : AV) = I k) ∧ ((I (at_ list ((at_x - 1).toNat)) : AV) = I (at_ list ((at_x - 1).toNat))) ∧ True] (by kernel_rfl) ⟨(inR_i64 (by omega) (by omega)), ⟨(by omega), (by omega)⟩, ⟨hc4, rfl, rfl, rfl, trivial⟩, trivial⟩ ?_
        refine xe_then ?_
        refine x_seq ?_
        refine x_seq ?_
        refine x_reg [] [0, 1, 2, 3, 9, 34] [] [slBox false boxes, slI false list, I k, Bv high, I at_x, Bv false] [] [] (by kernel_rfl) trivial ?_
        refine xe_then ?_
        refine x_false rfl ?_
        refine x_skip ?_
        refine xe_then ?_
        refine x_reg [] [0, 1, 2, 3, 9] [] [slBox false boxes, slI false list, I k, Bv high, I (at_x - 1)] [] [inR .i64 (at_x - 1)] (by kernel_rfl) ⟨(inR_i64 (by omega) (by omega)), trivial⟩ ?_
        refine xe_block 1 ?_
        exact xe_again (at_x - 1) rfl (show (0 ≤ (at_x - 1) ∧ (at_x - 1) ≤ (list.length : Int)) ∧ True from ⟨(by omega), trivial⟩) (by show ((at_x - 1).toNat : Nat) < at_x.toNat; omega)
       ·subst h6
        refine x_reg [(7, .call [(true, slBox false boxes), (true, I k), (true, I (at_ list ((at_x - 1).toNat)))] true (Bv false))] [0, 1, 2, 3, 9, 10] [] [slBox false boxes, slI false list, I k, Bv high, I at_x, Bv false] [] [inR .i64 (at_x - 1), (0 : Int) ≤ (at_x - 1) ∧ (at_x - 1) < (list.length : Int), Con Try.prog 190 [slBox false boxes, I k, I (at_ list ((at_x - 1).toNat))] true (Bv false) ∧ ((slBox false boxes : AV) = slBox false boxes) ∧ ((I k : AV) = I k) ∧ ((I (at_ list ((at_x - 1).toNat)) : AV) = I (at_ list ((at_x - 1).toNat))) ∧ True] (by kernel_rfl) ⟨(inR_i64 (by omega) (by omega)), ⟨(by omega), (by omega)⟩, ⟨hc4, rfl, rfl, rfl, trivial⟩, trivial⟩ ?_
        refine xe_then ?_
        refine x_seq ?_
        refine x_seq ?_
        refine x_reg [] [0, 1, 2, 3, 9, 34] [] [slBox false boxes, slI false list, I k, Bv high, I at_x, Bv true] [] [] (by kernel_rfl) trivial ?_
        refine xe_then ?_
        refine x_true rfl ?_
        refine x_exit ?_
        refine xe_exit_then ?_
        refine xe_exit_other rfl ?_
        refine xe_loop_exit ?_
        refine xe_exit_same ?_
        refine xe_then ?_
        refine x_seq ?_
        obtain ⟨out_5, hx5_0, hc5⟩ := l00Own_ok (list.take at_x.toNat) (by simp only [List.length_take]; omega)
        have hol_out_5 : out_5.length = ((list.take at_x.toNat)).length := by rw [hx5_0]
        simp only [List.length_take, List.length_drop] at hol_out_5
        refine x_reg [(3, .lend [] [(8201, .arr 1 out_5.length (fI out_5))] [(false, slI false (list.take at_x.toNat))] false (.arr 8201)), (5, .new 42), (6, .new 43)] [1, 9, 11] [43] [slI false list, I at_x, .arr 43] [some (.arr 1 (out_5.length + 1) (catF out_5.length (fI out_5) (litF [I k] 1)))] [(0 : Int) ≤ 0 ∧ (0 : Int) ≤ at_x ∧ at_x ≤ (list.length : Int), CallOK Try.prog 79 [slI false (list.take at_x.toNat)] (lookO []) false (.arr 8201) (lookO [(8201, .arr 1 out_5.length (fI out_5))]) ∧ ((false = true → false = true) ∧ 1 = 1 ∧ (at_x.toNat - 0) = ((list.take at_x.toNat).length) ∧ ∀ i, i < ((list.take at_x.toNat).length) → (cutF 0 (fI list)) i = (fI (list.take at_x.toNat)) i ∨ (AV.idsL ((fI (list.take at_x.toNat)) i) = [] ∧ leL (fun _ => none) false ((cutF 0 (fI list)) i) ((fI (list.take at_x.toNat)) i))) ∧ True, (out_5.length + 1) * 8 ≤ 140737488355328] (by kernel_rfl) ⟨⟨(by omega), (by omega), (by omega)⟩, ⟨hc5, ⟨(fun h => by cases h), rfl, (by first | rfl | (simp; done) | (simp; omega) | omega), fun i_ hi_ => .inl (cut_take (enc := cI) hi_)⟩, trivial⟩, (by omega), trivial⟩ ?_
        refine xe_then ?_
        refine x_seq ?_
        refine x_reg [(4, .new 48)] [8] [48] [.arr 48] [some (.arr 1 ((out_5.length + 1) + ((list.length : Int).toNat - at_x.toNat)) (catF (out_5.length + 1) (catF out_5.length (fI out_5) (litF [I k] 1)) (cutF at_x.toNat (fI list))))] [(0 : Int) ≤ at_x ∧ at_x ≤ (list.length : Int) ∧ (list.length : Int) ≤ (list.length : Int), ((out_5.length + 1) + ((list.length : Int).toNat - at_x.toNat)) * 8 ≤ 140737488355328] (by kernel_rfl) ⟨⟨(by omega), (by omega), (by omega)⟩, (by omega), trivial⟩ ?_
        refine xe_then ?_
        refine x_ret ?_
        refine xe_weak [(8221, 48)] (T := [(8, .arr 8221)]) (O := [(8221, .arr 1 (((out_5 ++ [k]) ++ (list.drop at_x.toNat)).length) (fI ((out_5 ++ [k]) ++ (list.drop at_x.toNat))))]) rfl (⟨.inl rfl, trivial⟩) (⟨.inr ⟨rfl, (by first | rfl | (simp; done) | (simp; omega) | omega), fun i_ hi_ => .inl (cat_two (enc := cI) (xs := (out_5 ++ [k])) (ys := (list.drop at_x.toNat)) (by first | rfl | simp) (fun i_ hi_ => (cat_snoc (enc := cI) (xs := out_5) rfl i_ hi_)) (fun i_ hi_ => (cut_drop (enc := cI) hi_)) i_ hi_)⟩, trivial⟩) ?_
        refine xe_end ((out_5 ++ [k]) ++ (list.drop at_x.toNat)) (show (((out_5 ++ [k]) ++ (list.drop at_x.toNat)).length = list.length + 1) ∧ (ixIn boxes.length ((out_5 ++ [k]) ++ (list.drop at_x.toNat))) ∧ (True) from ⟨(by first | (rw [hx1_0]; simp; omega) | (simp only [*]; simp; omega) | (simp only [*]; exact ixIn_put hx hk) | (simp [*]; omega)), (by first | (rw [hx1_0]; simp; omega) | (simp only [*]; simp; omega) | (simp only [*]; exact ixIn_put hx hk) | (simp [*]; omega)), trivial⟩) (⟨.inl rfl, trivial⟩) (.arr 8221) (by kernel_rfl) (.inl rfl) (fun h => by cases h) (fun h => by cases h)
      ·refine x_false (congrArg Bv h5) ?_
       refine x_skip ?_
       refine xe_then ?_
       refine x_seq ?_
       refine x_seq ?_
       refine x_reg [] [0, 1, 2, 3, 9, 34] [] [slBox false boxes, slI false list, I k, Bv high, I at_x, Bv true] [] [] (by kernel_rfl) trivial ?_
       refine xe_then ?_
       refine x_true rfl ?_
       refine x_exit ?_
       refine xe_exit_then ?_
       refine xe_exit_other rfl ?_
       refine xe_loop_exit ?_
       refine xe_exit_same ?_
       refine xe_then ?_
       refine x_seq ?_
       obtain ⟨out_6, hx6_0, hc6⟩ := l00Own_ok (list.take at_x.toNat) (by simp only [List.length_take]; omega)
       have hol_out_6 : out_6.length = ((list.take at_x.toNat)).length := by rw [hx6_0]
       simp only [List.length_take, List.length_drop] at hol_out_6
       refine x_reg [(3, .lend [] [(8201, .arr 1 out_6.length (fI out_6))] [(false, slI false (list.take at_x.toNat))] false (.arr 8201)), (5, .new 42), (6, .new 43)] [1, 9, 11] [43] [slI false list, I at_x, .arr 43] [some (.arr 1 (out_6.length + 1) (catF out_6.length (fI out_6) (litF [I k] 1)))] [(0 : Int) ≤ 0 ∧ (0 : Int) ≤ at_x ∧ at_x ≤ (list.length : Int), CallOK Try.prog 79 [slI false (list.take at_x.toNat)] (lookO []) false (.arr 8201) (lookO [(8201, .arr 1 out_6.length (fI out_6))]) ∧ ((false = true → false = true) ∧ 1 = 1 ∧ (at_x.toNat - 0) = ((list.take at_x.toNat).length) ∧ ∀ i, i < ((list.take at_x.toNat).length) → (cutF 0 (fI list)) i = (fI (list.take at_x.toNat)) i ∨ (AV.idsL ((fI (list.take at_x.toNat)) i) = [] ∧ leL (fun _ => none) false ((cutF 0 (fI list)) i) ((fI (list.take at_x.toNat)) i))) ∧ True, (out_6.length + 1) * 8 ≤ 140737488355328] (by kernel_rfl) ⟨⟨(by omega), (by omega), (by omega)⟩, ⟨hc6, ⟨(fun h => by cases h), rfl, (by first | rfl | (simp; done) | (simp; omega) | omega), fun i_ hi_ => .inl (cut_take (enc := cI) hi_)⟩, trivial⟩, (by omega), trivial⟩ ?_
       refine xe_then ?_
       refine x_seq ?_
       refine x_reg [(4, .new 48)] [8] [48] [.arr 48] [some (.arr 1 ((out_6.length + 1) + ((list.length : Int).toNat - at_x.toNat)) (catF (out_6.length + 1) (catF out_6.length (fI out_6) (litF [I k] 1)) (cutF at_x.toNat (fI list))))] [(0 : Int) ≤ at_x ∧ at_x ≤ (list.length : Int) ∧ (list.length : Int) ≤ (list.length : Int), ((out_6.length + 1) + ((list.length : Int).toNat - at_x.toNat)) * 8 ≤ 140737488355328] (by kernel_rfl) ⟨⟨(by omega), (by omega), (by omega)⟩, (by omega), trivial⟩ ?_
       refine xe_then ?_
       refine x_ret ?_
       refine xe_weak [(8221, 48)] (T := [(8, .arr 8221)]) (O := [(8221, .arr 1 (((out_6 ++ [k]) ++ (list.drop at_x.toNat)).length) (fI ((out_6 ++ [k]) ++ (list.drop at_x.toNat))))]) rfl (⟨.inl rfl, trivial⟩) (⟨.inr ⟨rfl, (by first | rfl | (simp; done) | (simp; omega) | omega), fun i_ hi_ => .inl (cat_two (enc := cI) (xs := (out_6 ++ [k])) (ys := (list.drop at_x.toNat)) (by first | rfl | simp) (fun i_ hi_ => (cat_snoc (enc := cI) (xs := out_6) rfl i_ hi_)) (fun i_ hi_ => (cut_drop (enc := cI) hi_)) i_ hi_)⟩, trivial⟩) ?_
       refine xe_end ((out_6 ++ [k]) ++ (list.drop at_x.toNat)) (show (((out_6 ++ [k]) ++ (list.drop at_x.toNat)).length = list.length + 1) ∧ (ixIn boxes.length ((out_6 ++ [k]) ++ (list.drop at_x.toNat))) ∧ (True) from ⟨(by first | (rw [hx1_0]; simp; omega) | (simp only [*]; simp; omega) | (simp only [*]; exact ixIn_put hx hk) | (simp [*]; omega)), (by first | (rw [hx1_0]; simp; omega) | (simp only [*]; simp; omega) | (simp only [*]; exact ixIn_put hx hk) | (simp [*]; omega)), trivial⟩) (⟨.inl rfl, trivial⟩) (.arr 8221) (by kernel_rfl) (.inl rfl) (fun h => by cases h) (fun h => by cases h)
    ·refine x_reg [(1, .dec false)] [0, 1, 2, 3, 9, 15] [] [slBox false boxes, slI false list, I k, Bv high, I at_x, Bv false] [] [¬ (0 < at_x)] (by kernel_rfl) ⟨h1, trivial⟩ ?_
     refine xe_then ?_
     refine x_false rfl ?_
     refine x_exit ?_
     refine xe_exit_then ?_
     refine xe_loop_exit ?_
     refine xe_exit_same ?_
     refine xe_then ?_
     refine x_seq ?_
     obtain ⟨out_7, hx7_0, hc7⟩ := l00Own_ok (list.take at_x.toNat) (by simp only [List.length_take]; omega)
     have hol_out_7 : out_7.length = ((list.take at_x.toNat)).length := by rw [hx7_0]
     simp only [List.length_take, List.length_drop] at hol_out_7
     refine x_reg [(3, .lend [] [(8201, .arr 1 out_7.length (fI out_7))] [(false, slI false (list.take at_x.toNat))] false (.arr 8201)), (5, .new 42), (6, .new 43)] [1, 9, 11] [43] [slI false list, I at_x, .arr 43] [some (.arr 1 (out_7.length + 1) (catF out_7.length (fI out_7) (litF [I k] 1)))] [(0 : Int) ≤ 0 ∧ (0 : Int) ≤ at_x ∧ at_x ≤ (list.length : Int), CallOK Try.prog 79 [slI false (list.take at_x.toNat)] (lookO []) false (.arr 8201) (lookO [(8201, .arr 1 out_7.length (fI out_7))]) ∧ ((false = true → false = true) ∧ 1 = 1 ∧ (at_x.toNat - 0) = ((list.take at_x.toNat).length) ∧ ∀ i, i < ((list.take at_x.toNat).length) → (cutF 0 (fI list)) i = (fI (list.take at_x.toNat)) i ∨ (AV.idsL ((fI (list.take at_x.toNat)) i) = [] ∧ leL (fun _ => none) false ((cutF 0 (fI list)) i) ((fI (list.take at_x.toNat)) i))) ∧ True, (out_7.length + 1) * 8 ≤ 140737488355328] (by kernel_rfl) ⟨⟨(by omega), (by omega), (by omega)⟩, ⟨hc7, ⟨(fun h => by cases h), rfl, (by first | rfl | (simp; done) | (simp; omega) | omega), fun i_ hi_ => .inl (cut_take (enc := cI) hi_)⟩, trivial⟩, (by omega), trivial⟩ ?_
     refine xe_then ?_
     refine x_seq ?_
     refine x_reg [(4, .new 48)] [8] [48] [.arr 48] [some (.arr 1 ((out_7.length + 1) + ((list.length : Int).toNat - at_x.toNat)) (catF (out_7.length + 1) (catF out_7.length (fI out_7) (litF [I k] 1)) (cutF at_x.toNat (fI list))))] [(0 : Int) ≤ at_x ∧ at_x ≤ (list.length : Int) ∧ (list.length : Int) ≤ (list.length : Int), ((out_7.length + 1) + ((list.length : Int).toNat - at_x.toNat)) * 8 ≤ 140737488355328] (by kernel_rfl) ⟨⟨(by omega), (by omega), (by omega)⟩, (by omega), trivial⟩ ?_
     refine xe_then ?_
     refine x_ret ?_
     refine xe_weak [(8221, 48)] (T := [(8, .arr 8221)]) (O := [(8221, .arr 1 (((out_7 ++ [k]) ++ (list.drop at_x.toNat)).length) (fI ((out_7 ++ [k]) ++ (list.drop at_x.toNat))))]) rfl (⟨.inl rfl, trivial⟩) (⟨.inr ⟨rfl, (by first | rfl | (simp; done) | (simp; omega) | omega), fun i_ hi_ => .inl (cat_two (enc := cI) (xs := (out_7 ++ [k])) (ys := (list.drop at_x.toNat)) (by first | rfl | simp) (fun i_ hi_ => (cat_snoc (enc := cI) (xs := out_7) rfl i_ hi_)) (fun i_ hi_ => (cut_drop (enc := cI) hi_)) i_ hi_)⟩, trivial⟩) ?_
     refine xe_end ((out_7 ++ [k]) ++ (list.drop at_x.toNat)) (show (((out_7 ++ [k]) ++ (list.drop at_x.toNat)).length = list.length + 1) ∧ (ixIn boxes.length ((out_7 ++ [k]) ++ (list.drop at_x.toNat))) ∧ (True) from ⟨(by first | (rw [hx1_0]; simp; omega) | (simp only [*]; simp; omega) | (simp only [*]; exact ixIn_put hx hk) | (simp [*]; omega)), (by first | (rw [hx1_0]; simp; omega) | (simp only [*]; simp; omega) | (simp only [*]; exact ixIn_put hx hk) | (simp [*]; omega)), trivial⟩) (⟨.inl rfl, trivial⟩) (.arr 8221) (by kernel_rfl) (.inl rfl) (fun h => by cases h) (fun h => by cases h)
  obtain ⟨out, ⟨hh0, hh1, _⟩, hc⟩ := hh
  exact ⟨out, hh0, hh1, hc⟩


-- spec.l19DrawItems
theorem l19DrawItems_ok (s : l00Src) (boxes : List Box) (hs : okSrc s) (ha : s.atx ≤ 3999999999999999000) (hbl : boxes.length ≤ 100) : ∃ (v : List Int) (s' : l00Src), (v.length ≤ 100) ∧ (okSrc s') ∧ (s'.code = s.code) ∧ (s.atx + 0 ≤ s'.atx ∧ s'.atx ≤ s.atx + 600) ∧ CallOK Try.prog 99 [.ref 7001 0, slBox false boxes] (lookO [(7001, bxl00Src s)]) true (slI true v) (lookO [(7001, bxl00Src s')]) := by
  have hh : ∃ r : (List Int) × l00Src, ((r.1.length ≤ 100) ∧ (okSrc r.2) ∧ (r.2.code = s.code) ∧ (s.atx + 0 ≤ r.2.atx ∧ r.2.atx ≤ s.atx + 600) ∧ (True)) ∧ CallOK Try.prog 99 [.ref 7001 0, slBox false boxes] (lookO [(7001, bxl00Src s)]) true (slI true r.1) (lookO [(7001, bxl00Src r.2)]) := by
    refine fn_okX (Φ := fun r : (List Int) × l00Src => (r.1.length ≤ 100) ∧ (okSrc r.2) ∧ (r.2.code = s.code) ∧ (s.atx + 0 ≤ r.2.atx ∧ r.2.atx ≤ s.atx + 600) ∧ (True)) [(7001, bxl00Src s)] (fun r => [(7001, bxl00Src r.2)]) (fn := Try.f99) (nt := 45) Try.func99 rfl rfl (args := [.ref 7001 0, slBox false boxes]) rfl (allcons (.inr trivial) (allcons (.inl ⟨rfl, tagBox false _⟩) allnil)) (res := fun r => slI true r.1) ?_
    refine x_seq ?_
    refine x_reg [] [0, 1] [7001] [.ref 7001 0, slBox false boxes] [some (bxl00Src s)] [] (by kernel_rfl) trivial ?_
    refine xe_then ?_
    refine x_seq ?_
    refine x_seq ?_
    rcases Bool.eq_false_or_eq_true (okPage boxes) with h1 | h1
    ·obtain ⟨v_1, s'_1, hx1_0, hx1_1, hx1_2, hc1⟩ := one_ok s 12 (by first | assumption | (simp only [okSrc] at *; simp_all; done)) (by omega)
     rcases Bool.eq_false_or_eq_true v_1 with h2 | h2
     ·subst h2
      refine x_reg [(1, .call [(true, slBox false boxes)] true (Bv true)), (5, .lend [(7001, bxl00Src s, bxl00Src s'_1)] [] [(true, .ref 7001 0), (true, I 12)] true (Bv true))] [0, 1, 13] [7001] [.ref 7001 0, slBox false boxes, Bv true] [some (bxl00Src s'_1)] [Con Try.prog 85 [slBox false boxes] true (Bv true) ∧ ((slBox false boxes : AV) = slBox false boxes) ∧ True, CallOK Try.prog 51 [.ref 7001 0, I 12] (lookO [(7001, bxl00Src s)]) true (Bv true) (lookO [(7001, bxl00Src s'_1)]) ∧ ((.ref 7001 0 : AV) = .ref 7001 0) ∧ ((I 12 : AV) = I 12) ∧ (((bxl00Src s : Ob) = bxl00Src s ∨ obLe noOb true (bxl00Src s) (bxl00Src s)) ∧ taggedO false (bxl00Src s)) ∧ True] (by kernel_rfl) ⟨⟨(con_bool h1 (l19Boxes_ok boxes)), rfl, trivial⟩, ⟨hc1, rfl, rfl, ⟨.inl rfl, (by simp [taggedO, taggedL, tagged, tagU8])⟩, trivial⟩, trivial⟩ ?_
      refine xe_then ?_
      refine x_true rfl ?_
      refine x_seq ?_
      obtain ⟨v_2, s'_2, hx2_0, hx2_1, hx2_2, hx2_3, hc2⟩ := pick_ok s'_1 4 (by first | assumption | (simp only [okSrc] at *; simp_all; done)) (by omega)
      refine x_reg [(1, .lend [(7001, bxl00Src s'_1, bxl00Src s'_2)] [] [(true, .ref 7001 0), (true, I 4)] true (I v_2)), (3, .new 17)] [4] [17, 7001] [.arr 17] [some (.arr 1 2 (litF [I 0, I (v_2 - 1)] 1)), some (bxl00Src s'_2)] [CallOK Try.prog 50 [.ref 7001 0, I 4] (lookO [(7001, bxl00Src s'_1)]) true (I v_2) (lookO [(7001, bxl00Src s'_2)]) ∧ ((.ref 7001 0 : AV) = .ref 7001 0) ∧ ((I 4 : AV) = I 4) ∧ (((bxl00Src s'_1 : Ob) = bxl00Src s'_1 ∨ obLe noOb true (bxl00Src s'_1) (bxl00Src s'_1)) ∧ taggedO false (bxl00Src s'_1)) ∧ True, inR .i64 (v_2 - 1)] (by kernel_rfl) ⟨⟨hc2, rfl, rfl, ⟨.inl rfl, (by simp [taggedO, taggedL, tagged, tagU8])⟩, trivial⟩, (inR_i64 (by omega) (by omega)), trivial⟩ ?_
      refine xe_then ?_
      refine x_ret ?_
      refine xe_ret_then ?_
      refine xe_end ([0, (v_2 - 1)], s'_2) (show (([0, (v_2 - 1)]).length ≤ 100) ∧ (okSrc s'_2) ∧ (s'_2.code = s.code) ∧ (s.atx + 0 ≤ s'_2.atx ∧ s'_2.atx ≤ s.atx + 600) ∧ (True) from ⟨(by first | omega | assumption | rfl | (simp; done) | (simp; omega) | (simp_all; done)), (by first | omega | assumption | rfl | (simp; done) | (simp; omega) | (simp_all; done)), (by first | omega | assumption | rfl | (simp; done) | (simp; omega) | (simp_all; done)), (by first | omega | assumption | rfl | (simp; done) | (simp; omega) | (simp_all; done)), trivial⟩) (⟨.inl rfl, trivial⟩) (.arr 17) (by kernel_rfl) (.inr ⟨(fun _ => rfl), rfl, (by first | rfl | (simp; done) | (simp; omega) | omega), fun i_ hi_ => .inl (match i_, hi_ with | 0, _ => rfl | 1, _ => rfl | (i + 2), h => absurd h (by simp))⟩) (fun _ => rfl) (fun _ => (tagI true _))
     ·subst h2
      refine x_reg [(1, .call [(true, slBox false boxes)] true (Bv true)), (5, .lend [(7001, bxl00Src s, bxl00Src s'_1)] [] [(true, .ref 7001 0), (true, I 12)] true (Bv false))] [0, 1, 13] [7001] [.ref 7001 0, slBox false boxes, Bv false] [some (bxl00Src s'_1)] [Con Try.prog 85 [slBox false boxes] true (Bv true) ∧ ((slBox false boxes : AV) = slBox false boxes) ∧ True, CallOK Try.prog 51 [.ref 7001 0, I 12] (lookO [(7001, bxl00Src s)]) true (Bv false) (lookO [(7001, bxl00Src s'_1)]) ∧ ((.ref 7001 0 : AV) = .ref 7001 0) ∧ ((I 12 : AV) = I 12) ∧ (((bxl00Src s : Ob) = bxl00Src s ∨ obLe noOb true (bxl00Src s) (bxl00Src s)) ∧ taggedO false (bxl00Src s)) ∧ True] (by kernel_rfl) ⟨⟨(con_bool h1 (l19Boxes_ok boxes)), rfl, trivial⟩, ⟨hc1, rfl, rfl, ⟨.inl rfl, (by simp [taggedO, taggedL, tagged, tagU8])⟩, trivial⟩, trivial⟩ ?_
      refine xe_then ?_
      refine x_false rfl ?_
      refine x_skip ?_
      refine xe_then ?_
      refine x_seq ?_
      refine x_reg [(0, .new 18)] [0, 1, 5] [18, 7001] [.ref 7001 0, slBox false boxes, .arr 18] [some (.arr 1 0 (litF [] 1)), some (bxl00Src s'_1)] [] (by kernel_rfl) trivial ?_
      refine xe_then ?_
      refine x_seq ?_
      refine x_seq ?_
      refine x_reg [] [0, 1, 5, 6] [18, 7001] [.ref 7001 0, slBox false boxes, .arr 18, I 0] [some (.arr 1 0 (litF [] 1)), some (bxl00Src s'_1)] [] (by kernel_rfl) trivial ?_
      refine xe_then ?_
      refine x_block ?_
      refine x_weak [] (T := [(0, .ref 7001 0), (1, slBox false boxes), (5, .arr 18), (6, I 0)]) (O := [(18, .arr 1 (([] : List Int).length) (fI ([] : List Int))), (7001, bxl00Src s'_1)]) rfl (⟨.inl rfl, .inl rfl, .inl rfl, .inl rfl, trivial⟩) (⟨.inr ⟨rfl, (by first | rfl | (simp; done) | (simp; omega) | omega), fun i_ hi_ => absurd hi_ (Nat.not_lt_zero _)⟩, .inl rfl, trivial⟩) ?_
      refine x_loop (X := (List Int) × Int × l00Src) (fun x => mkS [(0, .ref 7001 0), (1, slBox false boxes), (5, .arr 18), (6, I x.2.1)] [(18, .arr 1 x.1.length (fI x.1)), (7001, bxl00Src x.2.2)]) (fun x => (okSrc x.2.2 ∧ x.2.2.code = s.code ∧ s.atx ≤ x.2.2.atx ∧ x.2.2.atx ≤ s.atx + 10 + 2 * x.2.1) ∧ (0 ≤ x.2.1 ∧ x.2.1 ≤ (boxes.length : Int)) ∧ ((x.1.length : Int) ≤ x.2.1) ∧ (ixIn boxes.length x.1) ∧ True) (fun x => ((boxes.length : Int) - x.2.1).toNat) (([] : List Int), 0, s'_1) rfl (show (okSrc s'_1 ∧ s'_1.code = s.code ∧ s.atx ≤ s'_1.atx ∧ s'_1.atx ≤ s.atx + 10 + 2 * (0 : Int)) ∧ (0 ≤ (0 : Int) ∧ (0 : Int) ≤ (boxes.length : Int)) ∧ ((([] : List Int).length : Int) ≤ (0 : Int)) ∧ (ixIn boxes.length ([] : List Int)) ∧ True from ⟨(by exact ⟨by assumption, by first | assumption | rfl | (simp only [*]; done), by omega, by omega⟩), (by omega), (by simp), (by (intro z hz; simp at hz)), trivial⟩) (fun x hI => ?_)
      obtain ⟨out, k, src⟩ := x
      obtain ⟨hs0, hk0, hl0, hx0, _⟩ : (okSrc src ∧ src.code = s.code ∧ s.atx ≤ src.atx ∧ src.atx ≤ s.atx + 10 + 2 * k) ∧ (0 ≤ k ∧ k ≤ (boxes.length : Int)) ∧ ((out.length : Int) ≤ k) ∧ (ixIn boxes.length out) ∧ True := hI
      show XW _ _ _ _ (mkS [(0, .ref 7001 0), (1, slBox false boxes), (5, .arr 18), (6, I k)] [(18, .arr 1 out.length (fI out)), (7001, bxl00Src src)]) _ _
      refine x_seq ?_
      refine x_seq ?_
      by_cases h3 : k < (boxes.length : Int)
      ·refine x_reg [(3, .dec true)] [0, 1, 5, 6, 22] [18, 7001] [.ref 7001 0, slBox false boxes, .arr 18, I k, Bv true] [some (.arr 1 out.length (fI out)), some (bxl00Src src)] [k < (boxes.length : Int)] (by kernel_rfl) ⟨h3, trivial⟩ ?_
       refine xe_then ?_
       refine x_true rfl ?_
       refine x_skip ?_
       refine xe_then ?_
       refine x_seq ?_
       refine x_block ?_
       refine x_seq ?_
       obtain ⟨v_3, s'_3, hx3_0, hx3_1, hx3_2, hc3⟩ := one_ok src 4 (by first | assumption | (simp only [okSrc] at *; simp_all; done)) (by omega)
       rcases Bool.eq_false_or_eq_true v_3 with h4 | h4
       ·subst h4
        refine x_reg [(1, .lend [(7001, bxl00Src src, bxl00Src s'_3)] [] [(true, .ref 7001 0), (true, I 4)] true (Bv true))] [0, 1, 5, 6, 27] [18, 7001] [.ref 7001 0, slBox false boxes, .arr 18, I k, Bv false] [some (.arr 1 out.length (fI out)), some (bxl00Src s'_3)] [CallOK Try.prog 51 [.ref 7001 0, I 4] (lookO [(7001, bxl00Src src)]) true (Bv true) (lookO [(7001, bxl00Src s'_3)]) ∧ ((.ref 7001 0 : AV) = .ref 7001 0) ∧ ((I 4 : AV) = I 4) ∧ (((bxl00Src src : Ob) = bxl00Src src ∨ obLe noOb true (bxl00Src src) (bxl00Src src)) ∧ taggedO false (bxl00Src src)) ∧ True] (by kernel_rfl) ⟨⟨hc3, rfl, rfl, ⟨.inl rfl, (by simp [taggedO, taggedL, tagged, tagU8])⟩, trivial⟩, trivial⟩ ?_
        refine xe_then ?_
        refine x_false rfl ?_
        refine x_skip ?_
        refine xe_block 1 ?_
        refine xe_then ?_
        refine x_reg [] [0, 1, 5, 6] [18, 7001] [.ref 7001 0, slBox false boxes, .arr 18, I (k + 1)] [some (.arr 1 out.length (fI out)), some (bxl00Src s'_3)] [inR .i64 (k + 1)] (by kernel_rfl) ⟨(inR_i64 (by omega) (by omega)), trivial⟩ ?_
        exact xe_again (out, (k + 1), s'_3) rfl (show (okSrc s'_3 ∧ s'_3.code = s.code ∧ s.atx ≤ s'_3.atx ∧ s'_3.atx ≤ s.atx + 10 + 2 * (k + 1)) ∧ (0 ≤ (k + 1) ∧ (k + 1) ≤ (boxes.length : Int)) ∧ ((out.length : Int) ≤ (k + 1)) ∧ (ixIn boxes.length out) ∧ True from ⟨(by exact ⟨by assumption, by first | assumption | rfl | (simp only [*]; done), by omega, by omega⟩), (by omega), (by omega), (by assumption), trivial⟩) (by show (((boxes.length : Int) - (k + 1)).toNat : Nat) < ((boxes.length : Int) - k).toNat; omega)
       ·subst h4
        refine x_reg [(1, .lend [(7001, bxl00Src src, bxl00Src s'_3)] [] [(true, .ref 7001 0), (true, I 4)] true (Bv false))] [0, 1, 5, 6, 27] [18, 7001] [.ref 7001 0, slBox false boxes, .arr 18, I k, Bv true] [some (.arr 1 out.length (fI out)), some (bxl00Src s'_3)] [CallOK Try.prog 51 [.ref 7001 0, I 4] (lookO [(7001, bxl00Src src)]) true (Bv false) (lookO [(7001, bxl00Src s'_3)]) ∧ ((.ref 7001 0 : AV) = .ref 7001 0) ∧ ((I 4 : AV) = I 4) ∧ (((bxl00Src src : Ob) = bxl00Src src ∨ obLe noOb true (bxl00Src src) (bxl00Src src)) ∧ taggedO false (bxl00Src src)) ∧ True] (by kernel_rfl) ⟨⟨hc3, rfl, rfl, ⟨.inl rfl, (by simp [taggedO, taggedL, tagged, tagU8])⟩, trivial⟩, trivial⟩ ?_
        refine xe_then ?_
        refine x_true rfl ?_
        obtain ⟨out_4, hx4_0, hx4_1, hc4⟩ := l19Put_ok boxes out k false (by omega) (by omega) (by assumption)
        refine x_reg [(3, .lend [] [(8221, .arr 1 out_4.length (fI out_4))] [(true, slBox false boxes), (false, slI false out), (true, I k), (true, Bv false)] false (.arr 8221))] [0, 1, 5, 6] [7001, 8221] [.ref 7001 0, slBox false boxes, .arr 8221, I k] [some (bxl00Src s'_3), some (.arr 1 out_4.length (fI out_4))] [CallOK Try.prog 148 [slBox false boxes, slI false out, I k, Bv false] (lookO []) false (.arr 8221) (lookO [(8221, .arr 1 out_4.length (fI out_4))]) ∧ ((slBox false boxes : AV) = slBox false boxes) ∧ ((false = true → true = true) ∧ 1 = 1 ∧ out.length = out.length ∧ ∀ i, i < out.length → (fI out) i = (fI out) i ∨ (AV.idsL ((fI out) i) = [] ∧ leL (fun _ => none) false ((fI out) i) ((fI out) i))) ∧ ((I k : AV) = I k) ∧ ((Bv false : AV) = Bv false) ∧ True] (by kernel_rfl) ⟨⟨hc4, rfl, ⟨(fun h => by cases h), rfl, rfl, fun i _ => .inl rfl⟩, rfl, rfl, trivial⟩, trivial⟩ ?_
        refine xe_block 1 ?_
        refine xe_then ?_
        refine x_reg [] [0, 1, 5, 6] [7001, 8221] [.ref 7001 0, slBox false boxes, .arr 8221, I (k + 1)] [some (bxl00Src s'_3), some (.arr 1 out_4.length (fI out_4))] [inR .i64 (k + 1)] (by kernel_rfl) ⟨(inR_i64 (by omega) (by omega)), trivial⟩ ?_
        refine xe_weak [(18, 8221)] (T := [(0, .ref 7001 0), (1, slBox false boxes), (5, .arr 18), (6, I (k + 1))]) (O := [(18, .arr 1 out_4.length (fI out_4)), (7001, bxl00Src s'_3)]) rfl (⟨.inl rfl, .inl rfl, .inl rfl, .inl rfl, trivial⟩) (⟨.inl rfl, .inl rfl, trivial⟩) (xe_again (out_4, (k + 1), s'_3) rfl (show (okSrc s'_3 ∧ s'_3.code = s.code ∧ s.atx ≤ s'_3.atx ∧ s'_3.atx ≤ s.atx + 10 + 2 * (k + 1)) ∧ (0 ≤ (k + 1) ∧ (k + 1) ≤ (boxes.length : Int)) ∧ ((out_4.length : Int) ≤ (k + 1)) ∧ (ixIn boxes.length out_4) ∧ True from ⟨(by exact ⟨by assumption, by first | assumption | rfl | (simp only [*]; done), by omega, by omega⟩), (by omega), (by omega), (by assumption), trivial⟩) (by show (((boxes.length : Int) - (k + 1)).toNat : Nat) < ((boxes.length : Int) - k).toNat; omega))
      ·refine x_reg [(3, .dec false)] [0, 1, 5, 6, 22] [18, 7001] [.ref 7001 0, slBox false boxes, .arr 18, I k, Bv false] [some (.arr 1 out.length (fI out)), some (bxl00Src src)] [¬ (k < (boxes.length : Int))] (by kernel_rfl) ⟨h3, trivial⟩ ?_
       refine xe_then ?_
       refine x_false rfl ?_
       refine x_exit ?_
       refine xe_exit_then ?_
       refine xe_loop_exit ?_
       refine xe_exit_same ?_
       refine xe_then ?_
       refine x_seq ?_
       refine x_seq ?_
       by_cases h5 : 1 < (out.length : Int)
       ·obtain ⟨v_5, s'_5, hx5_0, hx5_1, hx5_2, hc5⟩ := one_ok src 14 (by first | assumption | (simp only [okSrc] at *; simp_all; done)) (by omega)
        rcases Bool.eq_false_or_eq_true v_5 with h6 | h6
        ·subst h6
         refine x_reg [(2, .dec true), (5, .lend [(7001, bxl00Src src, bxl00Src s'_5)] [] [(true, .ref 7001 0), (true, I 14)] true (Bv true))] [5, 38] [18, 7001] [.arr 18, Bv true] [some (.arr 1 out.length (fI out)), some (bxl00Src s'_5)] [1 < (out.length : Int), CallOK Try.prog 51 [.ref 7001 0, I 14] (lookO [(7001, bxl00Src src)]) true (Bv true) (lookO [(7001, bxl00Src s'_5)]) ∧ ((.ref 7001 0 : AV) = .ref 7001 0) ∧ ((I 14 : AV) = I 14) ∧ (((bxl00Src src : Ob) = bxl00Src src ∨ obLe noOb true (bxl00Src src) (bxl00Src src)) ∧ taggedO false (bxl00Src src)) ∧ True] (by kernel_rfl) ⟨h5, ⟨hc5, rfl, rfl, ⟨.inl rfl, (by simp [taggedO, taggedL, tagged, tagU8])⟩, trivial⟩, trivial⟩ ?_
         refine xe_then ?_
         refine x_true rfl ?_
         refine x_reg [] [5] [18, 7001] [.arr 18] [some (.arr 1 out.length (fun q => bif Nat.beq q 0 then [I (at_ out 1)] else (fI out) q)), some (bxl00Src s'_5)] [(0 : Int) ≤ 1 ∧ 1 < (out.length : Int), 1 < out.length, (0 : Int) ≤ 0 ∧ 0 < (out.length : Int), 0 < out.length] (by kernel_rfl) ⟨⟨(by omega), (by omega)⟩, (by omega), ⟨(by omega), (by omega)⟩, (by omega), trivial⟩ ?_
         refine xe_then ?_
         refine x_seq ?_
         refine x_reg [] [4] [18, 7001] [.arr 18] [some (.arr 1 out.length (fun q => bif Nat.beq q 0 then [I (at_ out 1)] else (fI out) q)), some (bxl00Src s'_5)] [] (by kernel_rfl) trivial ?_
         refine xe_then ?_
         refine x_ret ?_
         refine xe_end ((out.set 0 (at_ out 1)), s'_5) (show ((out.set 0 (at_ out 1)).length ≤ 100) ∧ (okSrc s'_5) ∧ (s'_5.code = s.code) ∧ (s.atx + 0 ≤ s'_5.atx ∧ s'_5.atx ≤ s.atx + 600) ∧ (True) from ⟨(by first | omega | assumption | rfl | (simp; done) | (simp; omega) | (simp_all; done)), (by first | omega | assumption | rfl | (simp; done) | (simp; omega) | (simp_all; done)), (by first | omega | assumption | rfl | (simp; done) | (simp; omega) | (simp_all; done)), (by first | omega | assumption | rfl | (simp; done) | (simp; omega) | (simp_all; done)), trivial⟩) (⟨.inl rfl, trivial⟩) (.arr 18) (by kernel_rfl) (.inr ⟨(fun _ => rfl), rfl, (by first | rfl | (simp; done) | (simp; omega) | omega), fun i_ hi_ => .inl (upd_enc (enc := cI) rfl i_ hi_)⟩) (fun _ => rfl) (fun _ => (tagI true _))
        ·subst h6
         refine x_reg [(2, .dec true), (5, .lend [(7001, bxl00Src src, bxl00Src s'_5)] [] [(true, .ref 7001 0), (true, I 14)] true (Bv false))] [5, 38] [18, 7001] [.arr 18, Bv false] [some (.arr 1 out.length (fI out)), some (bxl00Src s'_5)] [1 < (out.length : Int), CallOK Try.prog 51 [.ref 7001 0, I 14] (lookO [(7001, bxl00Src src)]) true (Bv false) (lookO [(7001, bxl00Src s'_5)]) ∧ ((.ref 7001 0 : AV) = .ref 7001 0) ∧ ((I 14 : AV) = I 14) ∧ (((bxl00Src src : Ob) = bxl00Src src ∨ obLe noOb true (bxl00Src src) (bxl00Src src)) ∧ taggedO false (bxl00Src src)) ∧ True] (by kernel_rfl) ⟨h5, ⟨hc5, rfl, rfl, ⟨.inl rfl, (by simp [taggedO, taggedL, tagged, tagU8])⟩, trivial⟩, trivial⟩ ?_
         refine xe_then ?_
         refine x_false rfl ?_
         refine x_skip ?_
         refine xe_then ?_
         refine x_seq ?_
         refine x_reg [] [4] [18, 7001] [.arr 18] [some (.arr 1 out.length (fI out)), some (bxl00Src s'_5)] [] (by kernel_rfl) trivial ?_
         refine xe_then ?_
         refine x_ret ?_
         refine xe_end (out, s'_5) (show (out.length ≤ 100) ∧ (okSrc s'_5) ∧ (s'_5.code = s.code) ∧ (s.atx + 0 ≤ s'_5.atx ∧ s'_5.atx ≤ s.atx + 600) ∧ (True) from ⟨(by first | omega | assumption | rfl | (simp; done) | (simp; omega) | (simp_all; done)), (by first | omega | assumption | rfl | (simp; done) | (simp; omega) | (simp_all; done)), (by first | omega | assumption | rfl | (simp; done) | (simp; omega) | (simp_all; done)), (by first | omega | assumption | rfl | (simp; done) | (simp; omega) | (simp_all; done)), trivial⟩) (⟨.inl rfl, trivial⟩) (.arr 18) (by kernel_rfl) (.inr ⟨(fun _ => rfl), rfl, rfl, fun i _ => .inl rfl⟩) (fun _ => rfl) (fun _ => (tagI true _))
       ·refine x_reg [(2, .dec false)] [5, 38] [18, 7001] [.arr 18, Bv false] [some (.arr 1 out.length (fI out)), some (bxl00Src src)] [¬ (1 < (out.length : Int))] (by kernel_rfl) ⟨h5, trivial⟩ ?_
        refine xe_then ?_
        refine x_false rfl ?_
        refine x_skip ?_
        refine xe_then ?_
        refine x_seq ?_
        refine x_reg [] [4] [18, 7001] [.arr 18] [some (.arr 1 out.length (fI out)), some (bxl00Src src)] [] (by kernel_rfl) trivial ?_
        refine xe_then ?_
        refine x_ret ?_
        refine xe_end (out, src) (show (out.length ≤ 100) ∧ (okSrc src) ∧ (src.code = s.code) ∧ (s.atx + 0 ≤ src.atx ∧ src.atx ≤ s.atx + 600) ∧ (True) from ⟨(by first | omega | assumption | rfl | (simp; done) | (simp; omega) | (simp_all; done)), (by first | omega | assumption | rfl | (simp; done) | (simp; omega) | (simp_all; done)), (by first | omega | assumption | rfl | (simp; done) | (simp; omega) | (simp_all; done)), (by first | omega | assumption | rfl | (simp; done) | (simp; omega) | (simp_all; done)), trivial⟩) (⟨.inl rfl, trivial⟩) (.arr 18) (by kernel_rfl) (.inr ⟨(fun _ => rfl), rfl, rfl, fun i _ => .inl rfl⟩) (fun _ => rfl) (fun _ => (tagI true _))
    ·refine x_reg [(1, .call [(true, slBox false boxes)] true (Bv false))] [0, 1, 13] [7001] [.ref 7001 0, slBox false boxes, Bv true] [some (bxl00Src s)] [Con Try.prog 85 [slBox false boxes] true (Bv false) ∧ ((slBox false boxes : AV) = slBox false boxes) ∧ True] (by kernel_rfl) ⟨⟨(con_bool h1 (l19Boxes_ok boxes)), rfl, trivial⟩, trivial⟩ ?_
     refine xe_then ?_
     refine x_true rfl ?_
     refine x_seq ?_
     obtain ⟨v_6, s'_6, hx6_0, hx6_1, hx6_2, hx6_3, hc6⟩ := pick_ok s 4 (by first | assumption | (simp only [okSrc] at *; simp_all; done)) (by omega)
     refine x_reg [(1, .lend [(7001, bxl00Src s, bxl00Src s'_6)] [] [(true, .ref 7001 0), (true, I 4)] true (I v_6)), (3, .new 17)] [4] [17, 7001] [.arr 17] [some (.arr 1 2 (litF [I 0, I (v_6 - 1)] 1)), some (bxl00Src s'_6)] [CallOK Try.prog 50 [.ref 7001 0, I 4] (lookO [(7001, bxl00Src s)]) true (I v_6) (lookO [(7001, bxl00Src s'_6)]) ∧ ((.ref 7001 0 : AV) = .ref 7001 0) ∧ ((I 4 : AV) = I 4) ∧ (((bxl00Src s : Ob) = bxl00Src s ∨ obLe noOb true (bxl00Src s) (bxl00Src s)) ∧ taggedO false (bxl00Src s)) ∧ True, inR .i64 (v_6 - 1)] (by kernel_rfl) ⟨⟨hc6, rfl, rfl, ⟨.inl rfl, (by simp [taggedO, taggedL, tagged, tagU8])⟩, trivial⟩, (inR_i64 (by omega) (by omega)), trivial⟩ ?_
     refine xe_then ?_
     refine x_ret ?_
     refine xe_ret_then ?_
     refine xe_end ([0, (v_6 - 1)], s'_6) (show (([0, (v_6 - 1)]).length ≤ 100) ∧ (okSrc s'_6) ∧ (s'_6.code = s.code) ∧ (s.atx + 0 ≤ s'_6.atx ∧ s'_6.atx ≤ s.atx + 600) ∧ (True) from ⟨(by first | omega | assumption | rfl | (simp; done) | (simp; omega) | (simp_all; done)), (by first | omega | assumption | rfl | (simp; done) | (simp; omega) | (simp_all; done)), (by first | omega | assumption | rfl | (simp; done) | (simp; omega) | (simp_all; done)), (by first | omega | assumption | rfl | (simp; done) | (simp; omega) | (simp_all; done)), trivial⟩) (⟨.inl rfl, trivial⟩) (.arr 17) (by kernel_rfl) (.inr ⟨(fun _ => rfl), rfl, (by first | rfl | (simp; done) | (simp; omega) | omega), fun i_ hi_ => .inl (match i_, hi_ with | 0, _ => rfl | 1, _ => rfl | (i + 2), h => absurd h (by simp))⟩) (fun _ => rfl) (fun _ => (tagI true _))
  obtain ⟨⟨v, s'⟩, ⟨hh0, hh1, hh2, hh3, _⟩, hc⟩ := hh
  exact ⟨v, s', hh0, hh1, hh2, hh3, hc⟩


-- spec.DrawGapsOf
theorem DrawGapsOf_ok (code : List Int) (hc : (∀ j, j < code.length → 0 ≤ at_ code j ∧ at_ code j ≤ 255) ∧ code.length ≤ 4611686018427387904) : ∃ (boxes : List Box) (items : List Int), (boxes.length ≤ 100) ∧ (items.length ≤ 100) ∧ Con Try.prog 81 [slU8 false code] true (.tup [slBox true boxes, slI true items]) := by
  have hh : ∃ r : (List Box) × (List Int), ((r.1.length ≤ 100) ∧ (r.2.length ≤ 100) ∧ (True)) ∧ CallOK Try.prog 81 [slU8 false code] (lookO []) true (.tup [slBox true r.1, slI true r.2]) (lookO []) := by
    refine fn_okX (Φ := fun r : (List Box) × (List Int) => (r.1.length ≤ 100) ∧ (r.2.length ≤ 100) ∧ (True)) [] (fun r => []) (fn := Try.f81) (nt := 14) Try.func81 rfl rfl (args := [slU8 false code]) rfl (allcons (.inl ⟨rfl, tagU8 false _⟩) allnil) (res := fun r => .tup [slBox true r.1, slI true r.2]) ?_
    refine x_seq ?_
    refine x_reg [] [0] [] [slU8 false code] [] [] (by kernel_rfl) trivial ?_
    refine xe_then ?_
    refine x_seq ?_
    obtain ⟨s'_1, hx1_0, hc1⟩ := l00From_ok code
    have hsrc : okSrc s'_1 := ⟨by rw [hx1_0.1]; exact hc.1, by rw [hx1_0.2]; decide, by rw [hx1_0.1]; exact hc.2⟩
    have hat0 := hx1_0.2
    refine x_reg [(1, .lend [] [(7001, bxl00Src s'_1)] [(true, slU8 false code)] false (.ref 7001 0))] [4] [7001] [.ref 7001 0] [some (bxl00Src s'_1)] [CallOK Try.prog 48 [slU8 false code] (lookO []) false (.ref 7001 0) (lookO [(7001, bxl00Src s'_1)]) ∧ ((slU8 false code : AV) = slU8 false code) ∧ True] (by kernel_rfl) ⟨⟨hc1, rfl, trivial⟩, trivial⟩ ?_
    refine xe_then ?_
    refine x_seq ?_
    obtain ⟨v_2, s'_2, hx2_0, hx2_1, hx2_2, hx2_3, hc2⟩ := l19Bent_ok s'_1 (by first | assumption | (simp only [okSrc] at *; simp_all; done)) (by omega)
    refine x_reg [(1, .lend [(7001, bxl00Src s'_1, bxl00Src s'_2)] [] [(true, .ref 7001 0)] true (slBox true v_2))] [4, 5] [7001] [.ref 7001 0, slBox true v_2] [some (bxl00Src s'_2)] [CallOK Try.prog 88 [.ref 7001 0] (lookO [(7001, bxl00Src s'_1)]) true (slBox true v_2) (lookO [(7001, bxl00Src s'_2)]) ∧ ((.ref 7001 0 : AV) = .ref 7001 0) ∧ (((bxl00Src s'_1 : Ob) = bxl00Src s'_1 ∨ obLe noOb true (bxl00Src s'_1) (bxl00Src s'_1)) ∧ taggedO false (bxl00Src s'_1)) ∧ True] (by kernel_rfl) ⟨⟨hc2, rfl, ⟨.inl rfl, (by simp [taggedO, taggedL, tagged, tagU8])⟩, trivial⟩, trivial⟩ ?_
    refine xe_then ?_
    refine x_seq ?_
    obtain ⟨v_3, s'_3, hx3_0, hx3_1, hx3_2, hx3_3, hc3⟩ := l19DrawItems_ok s'_2 v_2 (by first | assumption | (simp only [okSrc] at *; simp_all; done)) (by omega) (by omega)
    refine x_reg [(3, .lend [(7001, bxl00Src s'_2, bxl00Src s'_3)] [] [(true, .ref 7001 0), (false, slBox false v_2)] true (slI true v_3))] [2, 3] [] [slBox true v_2, slI true v_3] [] [CallOK Try.prog 99 [.ref 7001 0, slBox false v_2] (lookO [(7001, bxl00Src s'_2)]) true (slI true v_3) (lookO [(7001, bxl00Src s'_3)]) ∧ ((.ref 7001 0 : AV) = .ref 7001 0) ∧ ((false = true → true = true) ∧ 4 = 4 ∧ v_2.length = v_2.length ∧ ∀ i, i < v_2.length → (fBox v_2) i = (fBox v_2) i ∨ (AV.idsL ((fBox v_2) i) = [] ∧ leL (fun _ => none) false ((fBox v_2) i) ((fBox v_2) i))) ∧ (((bxl00Src s'_2 : Ob) = bxl00Src s'_2 ∨ obLe noOb true (bxl00Src s'_2) (bxl00Src s'_2)) ∧ taggedO false (bxl00Src s'_2)) ∧ True] (by kernel_rfl) ⟨⟨hc3, rfl, ⟨(fun h => by cases h), rfl, rfl, fun i _ => .inl rfl⟩, ⟨.inl rfl, (by simp [taggedO, taggedL, tagged, tagU8])⟩, trivial⟩, trivial⟩ ?_
    refine xe_then ?_
    refine x_ret ?_
    refine xe_end (v_2, v_3) (show (v_2.length ≤ 100) ∧ (v_3.length ≤ 100) ∧ (True) from ⟨(by first | omega | assumption | rfl | (simp; done) | (simp; omega) | (simp_all; done)), (by first | omega | assumption | rfl | (simp; done) | (simp; omega) | (simp_all; done)), trivial⟩) (trivial) (.tup [slBox true v_2, slI true v_3]) (by kernel_rfl) (.inl rfl) (fun _ => rfl) (fun _ => (by simp [tagged, taggedL, tagBox, tagI]))
  obtain ⟨⟨boxes, items⟩, ⟨hh0, hh1, _⟩, hc⟩ := hh
  exact ⟨boxes, items, hh0, hh1, hc⟩


-- spec.DrawBoxOfItems
theorem DrawBoxOfItems_ok (code : List Int) (hc : (∀ j, j < code.length → 0 ≤ at_ code j ∧ at_ code j ≤ 255) ∧ code.length ≤ 4611686018427387904) : ∃ (boxes : List Box) (items : List Int), (boxes.length ≤ 100) ∧ (items.length ≤ 100) ∧ Con Try.prog 23 [slU8 false code] true (.tup [slBox true boxes, slI true items]) := by
  have hh : ∃ r : (List Box) × (List Int), ((r.1.length ≤ 100) ∧ (r.2.length ≤ 100) ∧ (True)) ∧ CallOK Try.prog 23 [slU8 false code] (lookO []) true (.tup [slBox true r.1, slI true r.2]) (lookO []) := by
    refine fn_okX (Φ := fun r : (List Box) × (List Int) => (r.1.length ≤ 100) ∧ (r.2.length ≤ 100) ∧ (True)) [] (fun r => []) (fn := Try.f23) (nt := 8) Try.func23 rfl rfl (args := [slU8 false code]) rfl (allcons (.inl ⟨rfl, tagU8 false _⟩) allnil) (res := fun r => .tup [slBox true r.1, slI true r.2]) ?_
    refine x_seq ?_
    refine x_reg [] [0] [] [slU8 false code] [] [] (by kernel_rfl) trivial ?_
    refine xe_then ?_
    refine x_seq ?_
    obtain ⟨boxes_1, items_1, hx1_0, hx1_1, hc1⟩ := DrawGapsOf_ok code (by assumption)
    refine x_reg [(1, .call [(true, slU8 false code)] true (.tup [slBox true boxes_1, slI true items_1]))] [2, 3] [] [slBox true boxes_1, slI true items_1] [] [Con Try.prog 81 [slU8 false code] true (.tup [slBox true boxes_1, slI true items_1]) ∧ ((slU8 false code : AV) = slU8 false code) ∧ True] (by kernel_rfl) ⟨⟨hc1, rfl, trivial⟩, trivial⟩ ?_
    refine xe_then ?_
    refine x_ret ?_
    refine xe_end (boxes_1, items_1) (show (boxes_1.length ≤ 100) ∧ (items_1.length ≤ 100) ∧ (True) from ⟨(by first | omega | assumption | rfl | (simp; done) | (simp; omega) | (simp_all; done)), (by first | omega | assumption | rfl | (simp; done) | (simp; omega) | (simp_all; done)), trivial⟩) (trivial) (.tup [slBox true boxes_1, slI true items_1]) (by kernel_rfl) (.inl rfl) (fun _ => rfl) (fun _ => (by simp [tagged, taggedL, tagBox, tagI]))
  obtain ⟨⟨boxes, items⟩, ⟨hh0, hh1, _⟩, hc⟩ := hh
  exact ⟨boxes, items, hh0, hh1, hc⟩


-- impl.ValidBox
theorem ValidBox_ok (b : Box) : Con Try.prog 141 [agBox b] true (Bv (okBx b)) := by
  refine fn_ok (fn := Try.f141) (nt := 25) Try.func141 rfl rfl rfl rfl (by simp [taggedL, tagged]) fun B hB => ?_
  refine aw_seq ?_
  refine aw_reg [(0, .new 1)] [1] [1] [.ref 1 0] [some (bxBox b)] [] (by kernel_rfl) hB trivial ?_
  refine ae_then ?_
  refine aw_seq ?_
  rcases Bool.eq_false_or_eq_true (inB b.X1 0 b.X2) with h1 | h1
  ·rcases Bool.eq_false_or_eq_true (inB b.Y1 0 b.Y2) with h2 | h2
   ·by_cases h3 : b.X2 ≤ 4095
    ·refine aw_reg [(4, .call [(true, I b.X1), (true, I 0), (true, I b.X2)] true (Bv true)), (10, .call [(true, I b.Y1), (true, I 0), (true, I b.Y2)] true (Bv true)), (15, .dec true)] [2] [] [Bv (decide (b.Y2 ≤ 4095))] [] [Con Try.prog 93 [I b.X1, I 0, I b.X2] true (Bv true) ∧ ((I b.X1 : AV) = I b.X1) ∧ ((I 0 : AV) = I 0) ∧ ((I b.X2 : AV) = I b.X2) ∧ True, Con Try.prog 93 [I b.Y1, I 0, I b.Y2] true (Bv true) ∧ ((I b.Y1 : AV) = I b.Y1) ∧ ((I 0 : AV) = I 0) ∧ ((I b.Y2 : AV) = I b.Y2) ∧ True, b.X2 ≤ 4095] (by kernel_rfl) hB ⟨⟨(con_bool h1 (within_ok b.X1 0 b.X2)), rfl, rfl, rfl, trivial⟩, ⟨(con_bool h2 (within_ok b.Y1 0 b.Y2)), rfl, rfl, rfl, trivial⟩, h3, trivial⟩ ?_
     refine ae_then ?_
     refine aw_ret ?_
     refine ae_ret hB (Bv (decide (b.Y2 ≤ 4095))) (by kernel_rfl) (.inl (by first | rfl | (refine congrArg Bv ?_; simp [okBx, inB, *]; done) | (refine congrArg Bv ?_; simp [okBx, inB, *]; omega) | (refine congrArg Bv ?_; simp_all [okBx, inB]; done) | (refine congrArg Bv ?_; simp_all [okBx, inB]; omega))) rfl (fun _ => trivial)
    ·refine aw_reg [(4, .call [(true, I b.X1), (true, I 0), (true, I b.X2)] true (Bv true)), (10, .call [(true, I b.Y1), (true, I 0), (true, I b.Y2)] true (Bv true)), (15, .dec false)] [2] [] [Bv false] [] [Con Try.prog 93 [I b.X1, I 0, I b.X2] true (Bv true) ∧ ((I b.X1 : AV) = I b.X1) ∧ ((I 0 : AV) = I 0) ∧ ((I b.X2 : AV) = I b.X2) ∧ True, Con Try.prog 93 [I b.Y1, I 0, I b.Y2] true (Bv true) ∧ ((I b.Y1 : AV) = I b.Y1) ∧ ((I 0 : AV) = I 0) ∧ ((I b.Y2 : AV) = I b.Y2) ∧ True, ¬ (b.X2 ≤ 4095)] (by kernel_rfl) hB ⟨⟨(con_bool h1 (within_ok b.X1 0 b.X2)), rfl, rfl, rfl, trivial⟩, ⟨(con_bool h2 (within_ok b.Y1 0 b.Y2)), rfl, rfl, rfl, trivial⟩, h3, trivial⟩ ?_
     refine ae_then ?_
     refine aw_ret ?_
     refine ae_ret hB (Bv false) (by kernel_rfl) (.inl (by first | rfl | (refine congrArg Bv ?_; simp [okBx, inB, *]; done) | (refine congrArg Bv ?_; simp [okBx, inB, *]; omega) | (refine congrArg Bv ?_; simp_all [okBx, inB]; done) | (refine congrArg Bv ?_; simp_all [okBx, inB]; omega))) rfl (fun _ => trivial)
   ·refine aw_reg [(4, .call [(true, I b.X1), (true, I 0), (true, I b.X2)] true (Bv true)), (10, .call [(true, I b.Y1), (true, I 0), (true, I b.Y2)] true (Bv false))] [2] [] [Bv false] [] [Con Try.prog 93 [I b.X1, I 0, I b.X2] true (Bv true) ∧ ((I b.X1 : AV) = I b.X1) ∧ ((I 0 : AV) = I 0) ∧ ((I b.X2 : AV) = I b.X2) ∧ True, Con Try.prog 93 [I b.Y1, I 0, I b.Y2] true (Bv false) ∧ ((I b.Y1 : AV) = I b.Y1) ∧ ((I 0 : AV) = I 0) ∧ ((I b.Y2 : AV) = I b.Y2) ∧ True] (by kernel_rfl) hB ⟨⟨(con_bool h1 (within_ok b.X1 0 b.X2)), rfl, rfl, rfl, trivial⟩, ⟨(con_bool h2 (within_ok b.Y1 0 b.Y2)), rfl, rfl, rfl, trivial⟩, trivial⟩ ?_
    refine ae_then ?_
    refine aw_ret ?_
    refine ae_ret hB (Bv false) (by kernel_rfl) (.inl (by first | rfl | (refine congrArg Bv ?_; simp [okBx, inB, *]; done) | (refine congrArg Bv ?_; simp [okBx, inB, *]; omega) | (refine congrArg Bv ?_; simp_all [okBx, inB]; done) | (refine congrArg Bv ?_; simp_all [okBx, inB]; omega))) rfl (fun _ => trivial)
  ·refine aw_reg [(4, .call [(true, I b.X1), (true, I 0), (true, I b.X2)] true (Bv false))] [2] [] [Bv false] [] [Con Try.prog 93 [I b.X1, I 0, I b.X2] true (Bv false) ∧ ((I b.X1 : AV) = I b.X1) ∧ ((I 0 : AV) = I 0) ∧ ((I b.X2 : AV) = I b.X2) ∧ True] (by kernel_rfl) hB ⟨⟨(con_bool h1 (within_ok b.X1 0 b.X2)), rfl, rfl, rfl, trivial⟩, trivial⟩ ?_
   refine ae_then ?_
   refine aw_ret ?_
   refine ae_ret hB (Bv false) (by kernel_rfl) (.inl (by first | rfl | (refine congrArg Bv ?_; simp [okBx, inB, *]; done) | (refine congrArg Bv ?_; simp [okBx, inB, *]; omega) | (refine congrArg Bv ?_; simp_all [okBx, inB]; done) | (refine congrArg Bv ?_; simp_all [okBx, inB]; omega))) rfl (fun _ => trivial)


-- impl.isPage$1
theorem isPage1_ok (b : Box) : Con Try.prog 140 [agBox b] true (Bv (!(okBx b))) := by
  refine fn_ok (fn := Try.f140) (nt := 6) Try.func140 rfl rfl rfl rfl (by simp [taggedL, tagged]) fun B hB => ?_
  refine aw_seq ?_
  refine aw_reg [(0, .new 1)] [1] [1] [.ref 1 0] [some (bxBox b)] [] (by kernel_rfl) hB trivial ?_
  refine ae_then ?_
  refine aw_seq ?_
  refine aw_reg [(1, .call [(true, agBox b)] true (Bv (okBx b)))] [2] [] [Bv (!(okBx b))] [] [Con Try.prog 141 [agBox b] true (Bv (okBx b)) ∧ ((agBox b : AV) = agBox b) ∧ True] (by kernel_rfl) hB ⟨⟨(ValidBox_ok b), rfl, trivial⟩, trivial⟩ ?_
  refine ae_then ?_
  refine aw_ret ?_
  refine ae_ret hB (Bv (!(okBx b))) (by kernel_rfl) (.inl rfl) rfl (fun _ => trivial)


-- impl.isPage
theorem containsBox_ok_idx (s : List Box) : Con Try.prog 186 [slBox false s, .fn 140 []] true (I (firstN s.length (fun j => (!(okBx (at_ s j)))))) := by
  refine fn_ok (fn := Try.f186) (nt := 19) Try.func186 rfl rfl rfl rfl (by simp [taggedL, tagged, tagBox]) fun B hB => ?_
  refine aw_lens (x := slBox false s) 0 rfl (fun len_s => ?_)
  simp [LenOK, LenL, cBox, fBox, slBox] at len_s
  refine aw_seq ?_
  refine aw_reg [] [0, 1] [] [slBox false s, .fn 140 []] [] [] (by kernel_rfl) hB trivial ?_
  refine ae_then ?_
  refine aw_seq ?_
  refine aw_seq ?_
  refine aw_reg [] [0, 1, 7, 8] [] [slBox false s, .fn 140 [], I (s.length : Int), I 0] [] [] (by kernel_rfl) hB trivial ?_
  refine ae_then ?_
  refine aw_block ?_
  refine aw_loop (fun gn gσ => ∃ (t8 : Int), gn = ((s.length : Int) - t8).toNat ∧ (0 ≤ t8 ∧ t8 ≤ (s.length : Int)) ∧ (∀ j : Nat, (j : Int) < t8 → (!(okBx (at_ s j))) = false) ∧ gσ = mkS [(0, slBox false s), (1, .fn 140 []), (7, I (s.length : Int)), (8, I t8)] []) (((s.length : Int) - 0).toNat) ⟨0, rfl, (by omega), (by intro j hj; omega), rfl⟩ (fun gn gσ hI => ?_)
  obtain ⟨t8, rfl, hi0, hall0, rfl⟩ := hI
  refine aw_seq ?_
  by_cases h1 : t8 < (s.length : Int)
  ·have hi : t8.toNat < s.length := by omega
   refine aw_reg [(0, .dec true)] [0, 1, 7, 8, 9] [] [slBox false s, .fn 140 [], I (s.length : Int), I t8, Bv true] [] [t8 < (s.length : Int)] (by kernel_rfl) hB ⟨h1, trivial⟩ ?_
   refine ae_then ?_
   refine aw_seq ?_
   refine aw_true rfl ?_
   refine aw_skip ?_
   refine ae_then ?_
   refine aw_seq ?_
   refine aw_block ?_
   refine aw_seq ?_
   refine aw_reg [] [0, 1, 5, 7, 8] [] [slBox false s, .fn 140 [], I t8, I (s.length : Int), I t8] [] [] (by kernel_rfl) hB trivial ?_
   refine ae_then ?_
   refine aw_seq ?_
   rcases Bool.eq_false_or_eq_true (!(okBx (at_ s t8.toNat))) with h2 | h2
   ·have hfin : firstN s.length (fun j => (!(okBx (at_ s j)))) = t8.toNat := firstN_hit hi h2 (fun j hj => hall0 j (by omega))
    refine aw_reg [(5, .call [(true, agBox (at_ s t8.toNat))] true (Bv true))] [0, 1, 5, 7, 8, 16] [] [slBox false s, .fn 140 [], I t8, I (s.length : Int), I t8, Bv true] [] [(0 : Int) ≤ t8 ∧ t8 < (s.length : Int), Con Try.prog 140 [agBox (at_ s t8.toNat)] true (Bv true) ∧ ((agBox (at_ s t8.toNat) : AV) = agBox (at_ s t8.toNat)) ∧ True] (by kernel_rfl) hB ⟨⟨(by omega), (by omega)⟩, ⟨(con_bool h2 (isPage1_ok (at_ s t8.toNat))), rfl, trivial⟩, trivial⟩ ?_
    refine ae_then ?_
    refine aw_true rfl ?_
    refine aw_seq ?_
    refine aw_reg [] [4] [] [I t8] [] [] (by kernel_rfl) hB trivial ?_
    refine ae_then ?_
    refine aw_ret ?_
    refine ae_ret_block (ae_ret_then (ae_ret_then (ae_ret_block (ae_ret_then ?_))))
    refine ae_ret hB (I t8) (by kernel_rfl) (.inl (by refine congrArg I ?_; first | (rw [hfin]; done) | (rw [hfin]; omega))) rfl (fun _ => trivial)
   ·refine aw_reg [(5, .call [(true, agBox (at_ s t8.toNat))] true (Bv false))] [0, 1, 5, 7, 8, 16] [] [slBox false s, .fn 140 [], I t8, I (s.length : Int), I t8, Bv false] [] [(0 : Int) ≤ t8 ∧ t8 < (s.length : Int), Con Try.prog 140 [agBox (at_ s t8.toNat)] true (Bv false) ∧ ((agBox (at_ s t8.toNat) : AV) = agBox (at_ s t8.toNat)) ∧ True] (by kernel_rfl) hB ⟨⟨(by omega), (by omega)⟩, ⟨(con_bool h2 (isPage1_ok (at_ s t8.toNat))), rfl, trivial⟩, trivial⟩ ?_
    refine ae_then ?_
    refine aw_false rfl ?_
    refine aw_skip ?_
    refine ae_block 1 ?_
    refine ae_then ?_
    refine aw_reg [] [0, 1, 7, 8] [] [slBox false s, .fn 140 [], I (s.length : Int), I (t8 + 1)] [] [inR .i64 (t8 + 1)] (by kernel_rfl) hB ⟨(inR_i64 (by omega) (by omega)), trivial⟩ ?_
    exact ae_again _ (by omega) ⟨(t8 + 1), rfl, (by omega), (by intro j hj; by_cases ej : j = t8.toNat; (subst ej; assumption); exact hall0 j (by omega)), rfl⟩
  ·have hfin : firstN s.length (fun j => (!(okBx (at_ s j)))) = -1 := firstN_none (fun j hj => hall0 j (by omega))
   refine aw_reg [(0, .dec false)] [0, 1, 7, 8, 9] [] [slBox false s, .fn 140 [], I (s.length : Int), I t8, Bv false] [] [¬ (t8 < (s.length : Int))] (by kernel_rfl) hB ⟨h1, trivial⟩ ?_
   refine ae_then ?_
   refine aw_seq ?_
   refine aw_false rfl ?_
   refine aw_exit ?_
   refine ae_exit_then ?_
   refine ae_exit_then ?_
   refine ae_exit_same ?_
   refine ae_then ?_
   refine aw_seq ?_
   refine aw_reg [] [4] [] [I (-1)] [] [] (by kernel_rfl) hB trivial ?_
   refine ae_then ?_
   refine aw_ret ?_
   refine ae_ret hB (I (-1)) (by kernel_rfl) (.inl (by refine congrArg I ?_; first | (rw [hfin]; done) | (rw [hfin]; omega))) rfl (fun _ => trivial)

theorem containsBox_ok (s : List Box) : Con Try.prog 139 [slBox false s, .fn 140 []] true (Bv (anyN s.length (fun j => (!(okBx (at_ s j)))))) := by
  refine fn_ok (fn := Try.f139) (nt := 9) Try.func139 rfl rfl rfl rfl (by simp [taggedL, tagged, tagBox]) fun B hB => ?_
  refine aw_lens (x := slBox false s) 0 rfl (fun len_s => ?_)
  simp [LenOK, LenL, cBox, fBox, slBox] at len_s
  refine aw_seq ?_
  refine aw_reg [] [0, 1] [] [slBox false s, .fn 140 []] [] [] (by kernel_rfl) hB trivial ?_
  refine ae_then ?_
  refine aw_seq ?_
  refine aw_reg [(2, .call [(true, slBox false s), (true, .fn 140 [])] true (I (firstN s.length (fun j => (!(okBx (at_ s j)))))))] [4] [] [Bv (decide (0 ≤ (firstN s.length (fun j => (!(okBx (at_ s j)))))))] [] [Con Try.prog 186 [slBox false s, .fn 140 []] true (I (firstN s.length (fun j => (!(okBx (at_ s j)))))) ∧ ((slBox false s : AV) = slBox false s) ∧ ((.fn 140 [] : AV) = .fn 140 []) ∧ True] (by kernel_rfl) hB ⟨⟨(containsBox_ok_idx s), rfl, rfl, trivial⟩, trivial⟩ ?_
  refine ae_then ?_
  refine aw_ret ?_
  refine ae_ret hB (Bv (decide (0 ≤ (firstN s.length (fun j => (!(okBx (at_ s j)))))))) (by kernel_rfl) (.inl (by exact congrArg Bv (firstN_any _ _))) rfl (fun _ => trivial)

theorem isPage_ok (boxes : List Box) : Con Try.prog 82 [slBox false boxes] true (Bv (okPage boxes)) := by
  refine fn_ok (fn := Try.f82) (nt := 11) Try.func82 rfl rfl rfl rfl (by simp [taggedL, tagged, tagBox]) fun B hB => ?_
  refine aw_lens (x := slBox false boxes) 0 rfl (fun len_boxes => ?_)
  simp [LenOK, LenL, cBox, fBox, slBox] at len_boxes
  refine aw_seq ?_
  refine aw_reg [] [0] [] [slBox false boxes] [] [] (by kernel_rfl) hB trivial ?_
  refine ae_then ?_
  refine aw_seq ?_
  by_cases h1 : (boxes.length : Int) ≤ 60
  ·refine aw_reg [(2, .dec true), (5, .call [(true, slBox false boxes), (true, .fn 140 [])] true (Bv (anyN boxes.length (fun j => (!(okBx (at_ boxes j)))))))] [2] [] [Bv (!(anyN boxes.length (fun j => (!(okBx (at_ boxes j))))))] [] [(boxes.length : Int) ≤ 60, Con Try.prog 139 [slBox false boxes, .fn 140 []] true (Bv (anyN boxes.length (fun j => (!(okBx (at_ boxes j)))))) ∧ ((slBox false boxes : AV) = slBox false boxes) ∧ ((.fn 140 [] : AV) = .fn 140 []) ∧ True] (by kernel_rfl) hB ⟨h1, ⟨(containsBox_ok boxes), rfl, rfl, trivial⟩, trivial⟩ ?_
   refine ae_then ?_
   refine aw_ret ?_
   refine ae_ret hB (Bv (!(anyN boxes.length (fun j => (!(okBx (at_ boxes j))))))) (by kernel_rfl) (.inl (by refine congrArg Bv ?_; unfold okPage; first | (rw [decide_eq_false (by omega)]; rfl) | (rw [anyN_not, decide_eq_true (by omega)]; simp))) rfl (fun _ => trivial)
  ·refine aw_reg [(2, .dec false)] [2] [] [Bv false] [] [¬ ((boxes.length : Int) ≤ 60)] (by kernel_rfl) hB ⟨h1, trivial⟩ ?_
   refine ae_then ?_
   refine aw_ret ?_
   refine ae_ret hB (Bv false) (by kernel_rfl) (.inl (by refine congrArg Bv ?_; unfold okPage; first | (rw [decide_eq_false (by omega)]; rfl) | (rw [anyN_not, decide_eq_true (by omega)]; simp))) rfl (fun _ => trivial)


-- impl.areIndices$1
theorem areIndices1_ok (k : Int) (boxes : List Box) (hbl : boxes.length ≤ 1000000) : Con Try.prog 142 [I k, .ptr false [slBox false boxes]] true (Bv (!(inB k 0 ((boxes.length : Int) - 1)))) := by
  refine fn_ok (fn := Try.f142) (nt := 10) Try.func142 rfl rfl rfl rfl (by simp [taggedL, tagged, tagBox]) fun B hB => ?_
  refine aw_lens (x := .ptr false [slBox false boxes]) 1 rfl (fun len_boxes => ?_)
  simp [LenOK, LenL, cBox, fBox, slBox] at len_boxes
  refine aw_seq ?_
  refine aw_reg [] [0, 1] [] [I k, .ptr false [slBox false boxes]] [] [] (by kernel_rfl) hB trivial ?_
  refine ae_then ?_
  refine aw_seq ?_
  refine aw_reg [(4, .call [(true, I k), (true, I 0), (true, I ((boxes.length : Int) - 1))] true (Bv (inB k 0 ((boxes.length : Int) - 1))))] [3] [] [Bv (!(inB k 0 ((boxes.length : Int) - 1)))] [] [inR .i64 ((boxes.length : Int) - 1), Con Try.prog 93 [I k, I 0, I ((boxes.length : Int) - 1)] true (Bv (inB k 0 ((boxes.length : Int) - 1))) ∧ ((I k : AV) = I k) ∧ ((I 0 : AV) = I 0) ∧ ((I ((boxes.length : Int) - 1) : AV) = I ((boxes.length : Int) - 1)) ∧ True] (by kernel_rfl) hB ⟨(inR_i64 (by omega) (by omega)), ⟨(within_ok k 0 ((boxes.length : Int) - 1)), rfl, rfl, rfl, trivial⟩, trivial⟩ ?_
  refine ae_then ?_
  refine aw_ret ?_
  refine ae_ret hB (Bv (!(inB k 0 ((boxes.length : Int) - 1)))) (by kernel_rfl) (.inl rfl) rfl (fun _ => trivial)


-- impl.areIndices
theorem containsIx_ok_idx (s : List Int) (boxes : List Box) (hel : ∀ j, j < s.length → boxes.length ≤ 1000000) : Con Try.prog 135 [slI false s, .fn 142 [.ptr false [slBox false boxes]]] true (I (firstN s.length (fun j => (!(inB (at_ s j) 0 ((boxes.length : Int) - 1)))))) := by
  refine fn_ok (fn := Try.f135) (nt := 19) Try.func135 rfl rfl rfl rfl (by simp [taggedL, tagged, tagBox, tagI]) fun B hB => ?_
  refine aw_lens (x := slI false s) 0 rfl (fun len_s => ?_)
  simp [LenOK, LenL, cI, fI, slI] at len_s
  refine aw_seq ?_
  refine aw_reg [] [0, 1] [] [slI false s, .fn 142 [.ptr false [slBox false boxes]]] [] [] (by kernel_rfl) hB trivial ?_
  refine ae_then ?_
  refine aw_seq ?_
  refine aw_seq ?_
  refine aw_reg [] [0, 1, 7, 8] [] [slI false s, .fn 142 [.ptr false [slBox false boxes]], I (s.length : Int), I 0] [] [] (by kernel_rfl) hB trivial ?_
  refine ae_then ?_
  refine aw_block ?_
  refine aw_loop (fun gn gσ => ∃ (t8 : Int), gn = ((s.length : Int) - t8).toNat ∧ (0 ≤ t8 ∧ t8 ≤ (s.length : Int)) ∧ (∀ j : Nat, (j : Int) < t8 → (!(inB (at_ s j) 0 ((boxes.length : Int) - 1))) = false) ∧ gσ = mkS [(0, slI false s), (1, .fn 142 [.ptr false [slBox false boxes]]), (7, I (s.length : Int)), (8, I t8)] []) (((s.length : Int) - 0).toNat) ⟨0, rfl, (by omega), (by intro j hj; omega), rfl⟩ (fun gn gσ hI => ?_)
  obtain ⟨t8, rfl, hi0, hall0, rfl⟩ := hI
  refine aw_seq ?_
  by_cases h1 : t8 < (s.length : Int)
  ·have hi : t8.toNat < s.length := by omega
   refine aw_reg [(0, .dec true)] [0, 1, 7, 8, 9] [] [slI false s, .fn 142 [.ptr false [slBox false boxes]], I (s.length : Int), I t8, Bv true] [] [t8 < (s.length : Int)] (by kernel_rfl) hB ⟨h1, trivial⟩ ?_
   refine ae_then ?_
   refine aw_seq ?_
   refine aw_true rfl ?_
   refine aw_skip ?_
   refine ae_then ?_
   refine aw_seq ?_
   refine aw_block ?_
   refine aw_seq ?_
   refine aw_reg [] [0, 1, 5, 7, 8] [] [slI false s, .fn 142 [.ptr false [slBox false boxes]], I t8, I (s.length : Int), I t8] [] [] (by kernel_rfl) hB trivial ?_
   refine ae_then ?_
   refine aw_seq ?_
   rcases Bool.eq_false_or_eq_true (!(inB (at_ s t8.toNat) 0 ((boxes.length : Int) - 1))) with h2 | h2
   ·have hfin : firstN s.length (fun j => (!(inB (at_ s j) 0 ((boxes.length : Int) - 1)))) = t8.toNat := firstN_hit hi h2 (fun j hj => hall0 j (by omega))
    refine aw_reg [(5, .call [(true, I (at_ s t8.toNat)), (true, .ptr false [slBox false boxes])] true (Bv true))] [0, 1, 5, 7, 8, 16] [] [slI false s, .fn 142 [.ptr false [slBox false boxes]], I t8, I (s.length : Int), I t8, Bv true] [] [(0 : Int) ≤ t8 ∧ t8 < (s.length : Int), Con Try.prog 142 [I (at_ s t8.toNat), .ptr false [slBox false boxes]] true (Bv true) ∧ ((I (at_ s t8.toNat) : AV) = I (at_ s t8.toNat)) ∧ ((.ptr false [slBox false boxes] : AV) = .ptr false [slBox false boxes]) ∧ True] (by kernel_rfl) hB ⟨⟨(by omega), (by omega)⟩, ⟨(con_bool h2 (areIndices1_ok (at_ s t8.toNat) boxes (hel _ hi))), rfl, rfl, trivial⟩, trivial⟩ ?_
    refine ae_then ?_
    refine aw_true rfl ?_
    refine aw_seq ?_
    refine aw_reg [] [4] [] [I t8] [] [] (by kernel_rfl) hB trivial ?_
    refine ae_then ?_
    refine aw_ret ?_
    refine ae_ret_block (ae_ret_then (ae_ret_then (ae_ret_block (ae_ret_then ?_))))
    refine ae_ret hB (I t8) (by kernel_rfl) (.inl (by refine congrArg I ?_; first | (rw [hfin]; done) | (rw [hfin]; omega))) rfl (fun _ => trivial)
   ·refine aw_reg [(5, .call [(true, I (at_ s t8.toNat)), (true, .ptr false [slBox false boxes])] true (Bv false))] [0, 1, 5, 7, 8, 16] [] [slI false s, .fn 142 [.ptr false [slBox false boxes]], I t8, I (s.length : Int), I t8, Bv false] [] [(0 : Int) ≤ t8 ∧ t8 < (s.length : Int), Con Try.prog 142 [I (at_ s t8.toNat), .ptr false [slBox false boxes]] true (Bv false) ∧ ((I (at_ s t8.toNat) : AV) = I (at_ s t8.toNat)) ∧ ((.ptr false [slBox false boxes] : AV) = .ptr false [slBox false boxes]) ∧ True] (by kernel_rfl) hB ⟨⟨(by omega), (by omega)⟩, ⟨(con_bool h2 (areIndices1_ok (at_ s t8.toNat) boxes (hel _ hi))), rfl, rfl, trivial⟩, trivial⟩ ?_
    refine ae_then ?_
    refine aw_false rfl ?_
    refine aw_skip ?_
    refine ae_block 1 ?_
    refine ae_then ?_
    refine aw_reg [] [0, 1, 7, 8] [] [slI false s, .fn 142 [.ptr false [slBox false boxes]], I (s.length : Int), I (t8 + 1)] [] [inR .i64 (t8 + 1)] (by kernel_rfl) hB ⟨(inR_i64 (by omega) (by omega)), trivial⟩ ?_
    exact ae_again _ (by omega) ⟨(t8 + 1), rfl, (by omega), (by intro j hj; by_cases ej : j = t8.toNat; (subst ej; assumption); exact hall0 j (by omega)), rfl⟩
  ·have hfin : firstN s.length (fun j => (!(inB (at_ s j) 0 ((boxes.length : Int) - 1)))) = -1 := firstN_none (fun j hj => hall0 j (by omega))
   refine aw_reg [(0, .dec false)] [0, 1, 7, 8, 9] [] [slI false s, .fn 142 [.ptr false [slBox false boxes]], I (s.length : Int), I t8, Bv false] [] [¬ (t8 < (s.length : Int))] (by kernel_rfl) hB ⟨h1, trivial⟩ ?_
   refine ae_then ?_
   refine aw_seq ?_
   refine aw_false rfl ?_
   refine aw_exit ?_
   refine ae_exit_then ?_
   refine ae_exit_then ?_
   refine ae_exit_same ?_
   refine ae_then ?_
   refine aw_seq ?_
   refine aw_reg [] [4] [] [I (-1)] [] [] (by kernel_rfl) hB trivial ?_
   refine ae_then ?_
   refine aw_ret ?_
   refine ae_ret hB (I (-1)) (by kernel_rfl) (.inl (by refine congrArg I ?_; first | (rw [hfin]; done) | (rw [hfin]; omega))) rfl (fun _ => trivial)

theorem containsIx_ok (s : List Int) (boxes : List Box) (hel : ∀ j, j < s.length → boxes.length ≤ 1000000) : Con Try.prog 72 [slI false s, .fn 142 [.ptr false [slBox false boxes]]] true (Bv (anyN s.length (fun j => (!(inB (at_ s j) 0 ((boxes.length : Int) - 1)))))) := by
  refine fn_ok (fn := Try.f72) (nt := 9) Try.func72 rfl rfl rfl rfl (by simp [taggedL, tagged, tagBox, tagI]) fun B hB => ?_
  refine aw_lens (x := slI false s) 0 rfl (fun len_s => ?_)
  simp [LenOK, LenL, cI, fI, slI] at len_s
  refine aw_seq ?_
  refine aw_reg [] [0, 1] [] [slI false s, .fn 142 [.ptr false [slBox false boxes]]] [] [] (by kernel_rfl) hB trivial ?_
  refine ae_then ?_
  refine aw_seq ?_
  refine aw_reg [(2, .call [(true, slI false s), (true, .fn 142 [.ptr false [slBox false boxes]])] true (I (firstN s.length (fun j => (!(inB (at_ s j) 0 ((boxes.length : Int) - 1)))))))] [4] [] [Bv (decide (0 ≤ (firstN s.length (fun j => (!(inB (at_ s j) 0 ((boxes.length : Int) - 1)))))))] [] [Con Try.prog 135 [slI false s, .fn 142 [.ptr false [slBox false boxes]]] true (I (firstN s.length (fun j => (!(inB (at_ s j) 0 ((boxes.length : Int) - 1)))))) ∧ ((slI false s : AV) = slI false s) ∧ ((.fn 142 [.ptr false [slBox false boxes]] : AV) = .fn 142 [.ptr false [slBox false boxes]]) ∧ True] (by kernel_rfl) hB ⟨⟨(containsIx_ok_idx s boxes hel), rfl, rfl, trivial⟩, trivial⟩ ?_
  refine ae_then ?_
  refine aw_ret ?_
  refine ae_ret hB (Bv (decide (0 ≤ (firstN s.length (fun j => (!(inB (at_ s j) 0 ((boxes.length : Int) - 1)))))))) (by kernel_rfl) (.inl (by exact congrArg Bv (firstN_any _ _))) rfl (fun _ => trivial)

theorem areIndices_ok (boxes : List Box) (items : List Int) (hbl : boxes.length ≤ 1000000) : Con Try.prog 83 [slBox false boxes, slI false items] true (Bv (inIx boxes items)) := by
  refine fn_ok (fn := Try.f83) (nt := 9) Try.func83 rfl rfl rfl rfl (by simp [taggedL, tagged, tagBox, tagI]) fun B hB => ?_
  refine aw_lens (x := slBox false boxes) 0 rfl (fun len_boxes => ?_)
  simp [LenOK, LenL, cBox, fBox, slBox] at len_boxes
  refine aw_lens (x := slI false items) 1 rfl (fun len_items => ?_)
  simp [LenOK, LenL, cI, fI, slI] at len_items
  refine aw_seq ?_
  refine aw_reg [(0, .new 2)] [1, 2] [2] [slI false items, .ref 2 0] [some (.box [slBox false boxes])] [] (by kernel_rfl) hB trivial ?_
  refine ae_then ?_
  refine aw_seq ?_
  refine aw_reg [(2, .call [(true, slI false items), (false, .fn 142 [.ptr false [slBox false boxes]])] true (Bv (anyN items.length (fun j => (!(inB (at_ items j) 0 ((boxes.length : Int) - 1)))))))] [4] [] [Bv (!(anyN items.length (fun j => (!(inB (at_ items j) 0 ((boxes.length : Int) - 1))))))] [] [Con Try.prog 72 [slI false items, .fn 142 [.ptr false [slBox false boxes]]] true (Bv (anyN items.length (fun j => (!(inB (at_ items j) 0 ((boxes.length : Int) - 1)))))) ∧ ((slI false items : AV) = slI false items) ∧ (142 = 142 ∧ ((false = true → true = true) ∧ AV.idsL [slBox false boxes] = [] ∧ ((false = true → false = true) ∧ 4 = 4 ∧ boxes.length = boxes.length ∧ ∀ i, i < boxes.length → (fBox boxes) i = (fBox boxes) i ∨ (AV.idsL ((fBox boxes) i) = [] ∧ leL (fun _ => none) false ((fBox boxes) i) ((fBox boxes) i))) ∧ ([] : List AV) = []) ∧ ([] : List AV) = []) ∧ True] (by kernel_rfl) hB ⟨⟨(containsIx_ok items boxes (fun _ _ => hbl)), rfl, ⟨rfl, ⟨⟨(fun h => by cases h), rfl, ⟨⟨(fun h => by cases h), rfl, rfl, fun i _ => .inl rfl⟩, rfl⟩⟩, rfl⟩⟩, trivial⟩, trivial⟩ ?_
  refine ae_then ?_
  refine aw_ret ?_
  refine ae_ret hB (Bv (!(anyN items.length (fun j => (!(inB (at_ items j) 0 ((boxes.length : Int) - 1))))))) (by kernel_rfl) (.inl (by refine congrArg Bv ?_; unfold inIx; rw [anyN_not]; simp)) rfl (fun _ => trivial)


-- impl.joinBoxes
theorem joinBoxes_ok (a : Box) (b : Box) : Con Try.prog 84 [agBox a, agBox b] true (agBox (joinB a b)) := by
  refine fn_ok (fn := Try.f84) (nt := 26) Try.func84 rfl rfl rfl rfl (by simp [taggedL, tagged]) fun B hB => ?_
  refine aw_seq ?_
  refine aw_reg [(0, .new 2), (1, .new 3), (2, .new 4)] [2, 3, 4] [2, 3, 4] [.ref 2 0, .ref 3 0, .ref 4 0] [some (bxBox a), some (bxBox b), some (.box [I 0, I 0, I 0, I 0])] [] (by kernel_rfl) hB trivial ?_
  refine ae_then ?_
  refine aw_seq ?_
  refine aw_reg [] [4] [4] [.ref 4 0] [some (.box [I (min a.X1 b.X1), I (min a.Y1 b.Y1), I (max a.X2 b.X2), I (max a.Y2 b.Y2)])] [] (by kernel_rfl) hB trivial ?_
  refine ae_then ?_
  refine aw_ret ?_
  refine ae_ret hB (.agg [I (min a.X1 b.X1), I (min a.Y1 b.Y1), I (max a.X2 b.X2), I (max a.Y2 b.Y2)]) (by kernel_rfl) (.inl (by first | rfl | (refine congrArg Bv ?_; simp [*]; done) | (refine congrArg Bv ?_; simp [*]; omega) | (refine congrArg Bv ?_; simp_all []; done) | (refine congrArg Bv ?_; simp_all []; omega))) rfl (fun _ => (by simp [tagged, taggedL]))


-- impl.BoxOfItems
theorem implBoxOfItems_ok (boxes : List Box) (items : List Int) (hbl : boxes.length ≤ 1000 ∧ items.length ≤ 1000) : Con Try.prog 24 [slBox false boxes, slI false items] true (.tup [agBox ((boiR boxes items).1), I ((boiR boxes items).2)]) := by
  refine fn_ok (fn := Try.f24) (nt := 45) Try.func24 rfl rfl rfl rfl (by simp [taggedL, tagged, tagBox, tagI]) fun B hB => ?_
  refine aw_lens (x := slBox false boxes) 0 rfl (fun len_boxes => ?_)
  simp [LenOK, LenL, cBox, fBox, slBox] at len_boxes
  refine aw_lens (x := slI false items) 1 rfl (fun len_items => ?_)
  simp [LenOK, LenL, cI, fI, slI] at len_items
  refine aw_seq ?_
  refine aw_reg [(0, .new 4)] [0, 1, 4] [4] [slBox false boxes, slI false items, .ref 4 0] [some (.box [I 0, I 0, I 0, I 0])] [] (by kernel_rfl) hB trivial ?_
  refine ae_then ?_
  refine aw_seq ?_
  refine aw_block ?_
  refine aw_seq ?_
  rcases Bool.eq_false_or_eq_true (okPage boxes) with h1 | h1
  ·refine aw_reg [(1, .call [(true, slBox false boxes)] true (Bv true))] [0, 1, 4, 9] [4] [slBox false boxes, slI false items, .ref 4 0, Bv false] [some (.box [I 0, I 0, I 0, I 0])] [Con Try.prog 82 [slBox false boxes] true (Bv true) ∧ ((slBox false boxes : AV) = slBox false boxes) ∧ True] (by kernel_rfl) hB ⟨⟨(con_bool h1 (isPage_ok boxes)), rfl, trivial⟩, trivial⟩ ?_
   refine ae_then ?_
   refine aw_false rfl ?_
   refine aw_seq ?_
   rcases Bool.eq_false_or_eq_true (inIx boxes items) with h2 | h2
   ·refine aw_reg [(2, .call [(true, slBox false boxes), (true, slI false items)] true (Bv true))] [0, 1, 4, 14] [4] [slBox false boxes, slI false items, .ref 4 0, Bv false] [some (.box [I 0, I 0, I 0, I 0])] [Con Try.prog 83 [slBox false boxes, slI false items] true (Bv true) ∧ ((slBox false boxes : AV) = slBox false boxes) ∧ ((slI false items : AV) = slI false items) ∧ True] (by kernel_rfl) hB ⟨⟨(con_bool h2 (areIndices_ok boxes items (by omega))), rfl, rfl, trivial⟩, trivial⟩ ?_
    refine ae_then ?_
    refine aw_false rfl ?_
    refine aw_seq ?_
    by_cases h3 : (items.length : Int) = 0
    ·have hst := boi_st h1 h2 h3
     refine aw_reg [(2, .dec true)] [0, 1, 4, 20] [4] [slBox false boxes, slI false items, .ref 4 0, Bv true] [some (.box [I 0, I 0, I 0, I 0])] [(items.length : Int) = 0] (by kernel_rfl) hB ⟨h3, trivial⟩ ?_
     refine ae_then ?_
     refine aw_true rfl ?_
     refine aw_seq ?_
     refine aw_reg [] [4, 5] [4] [.ref 4 0, I 6] [some (.box [I 0, I 0, I 0, I 0])] [] (by kernel_rfl) hB trivial ?_
     refine ae_then ?_
     refine aw_ret ?_
     refine ae_ret_block (ae_ret_then ?_)
     refine ae_ret hB (.tup [.agg [I 0, I 0, I 0, I 0], I 6]) (by kernel_rfl) (.inl (by first | (rw [hst]; done) | (rw [hst, ← hb1]))) rfl (fun _ => (by simp [tagged, taggedL]))
    ·have hst := boi_yes h1 h2 h3
     have hx0 := inIx_at h2 (j := 0) (by omega)
     refine aw_reg [(2, .dec false)] [0, 1, 4, 20] [4] [slBox false boxes, slI false items, .ref 4 0, Bv false] [some (.box [I 0, I 0, I 0, I 0])] [¬ ((items.length : Int) = 0)] (by kernel_rfl) hB ⟨h3, trivial⟩ ?_
     refine ae_then ?_
     refine aw_false rfl ?_
     refine aw_skip ?_
     refine ae_block 0 ?_
     refine ae_then ?_
     refine aw_seq ?_
     refine aw_reg [(6, .new 6)] [0, 1, 4, 6] [4, 6] [slBox false boxes, slI false items, .ref 4 0, .ref 6 0] [some (.box [I 0, I 0, I 0, I 0]), some (bxBox (at_ boxes ((at_ items 0).toNat)))] [(0 : Int) ≤ 0 ∧ 0 < (items.length : Int), (0 : Int) ≤ (at_ items 0) ∧ (at_ items 0) < (boxes.length : Int)] (by kernel_rfl) hB ⟨⟨(by omega), (by omega)⟩, ⟨(by omega), (by omega)⟩, trivial⟩ ?_
     refine ae_then ?_
     refine aw_seq ?_
     refine aw_seq ?_
     refine aw_reg [] [0, 4, 6, 31, 32, 33] [4, 6] [slBox false boxes, .ref 4 0, .ref 6 0, slI false items, I (items.length : Int), I 0] [some (.box [I 0, I 0, I 0, I 0]), some (bxBox (at_ boxes ((at_ items 0).toNat)))] [] (by kernel_rfl) hB trivial ?_
     refine ae_then ?_
     refine aw_block ?_
     refine aw_weak hB [] (T := [(0, slBox false boxes), (4, .ref 4 0), (6, .ref 6 0), (31, slI false items), (32, I (items.length : Int)), (33, I 0)]) (O := [(4, .box [I 0, I 0, I 0, I 0]), (6, .box [I ((at_ boxes ((at_ items 0).toNat)).X1), I ((at_ boxes ((at_ items 0).toNat)).Y1), I ((at_ boxes ((at_ items 0).toNat)).X2), I ((at_ boxes ((at_ items 0).toNat)).Y2)])]) rfl (⟨.inl rfl, .inl rfl, .inl rfl, .inl rfl, .inl rfl, .inl rfl, trivial⟩) (⟨.inl rfl, .inr ⟨rfl, ⟨rfl, ⟨rfl, ⟨rfl, rfl⟩⟩⟩⟩, trivial⟩) ?_
     refine aw_loop (fun gn gσ => ∃ (t33 : Int) (x1 : Int) (y1 : Int) (x2 : Int) (y2 : Int), gn = ((items.length : Int) - t33).toNat ∧ (0 ≤ t33 ∧ t33 ≤ (items.length : Int)) ∧ (Box.mk x1 y1 x2 y2 = itB boxes items t33.toNat) ∧ gσ = mkS [(0, slBox false boxes), (4, .ref 4 0), (6, .ref 6 0), (31, slI false items), (32, I (items.length : Int)), (33, I t33)] [(4, .box [I 0, I 0, I 0, I 0]), (6, .box [I x1, I y1, I x2, I y2])]) (((items.length : Int) - 0).toNat) ⟨0, (at_ boxes ((at_ items 0).toNat)).X1, (at_ boxes ((at_ items 0).toNat)).Y1, (at_ boxes ((at_ items 0).toNat)).X2, (at_ boxes ((at_ items 0).toNat)).Y2, rfl, (by omega), (by first | rfl | exact (itB_one _ _).symm), rfl⟩ (fun gn gσ hI => ?_)
     obtain ⟨t33, x1, y1, x2, y2, rfl, hj0, hb1, rfl⟩ := hI
     refine aw_seq ?_
     by_cases h4 : t33 < (items.length : Int)
     ·have hi2 : t33.toNat < items.length := by omega
      have hxi := inIx_at h2 hi2
      refine aw_reg [(0, .dec true)] [0, 4, 6, 31, 32, 33, 34] [4, 6] [slBox false boxes, .ref 4 0, .ref 6 0, slI false items, I (items.length : Int), I t33, Bv true] [some (.box [I 0, I 0, I 0, I 0]), some (.box [I x1, I y1, I x2, I y2])] [t33 < (items.length : Int)] (by kernel_rfl) hB ⟨h4, trivial⟩ ?_
      refine ae_then ?_
      refine aw_seq ?_
      refine aw_true rfl ?_
      refine aw_skip ?_
      refine ae_then ?_
      refine aw_seq ?_
      refine aw_block ?_
      refine aw_seq ?_
      refine aw_reg [] [0, 4, 6, 8, 31, 32, 33] [4, 6] [slBox false boxes, .ref 4 0, .ref 6 0, I (at_ items t33.toNat), slI false items, I (items.length : Int), I t33] [some (.box [I 0, I 0, I 0, I 0]), some (.box [I x1, I y1, I x2, I y2])] [(0 : Int) ≤ t33 ∧ t33 < (items.length : Int)] (by kernel_rfl) hB ⟨⟨(by omega), (by omega)⟩, trivial⟩ ?_
      refine ae_then ?_
      refine aw_reg [(5, .call [(true, .agg [I x1, I y1, I x2, I y2]), (true, agBox (at_ boxes ((at_ items t33.toNat).toNat)))] true (agBox (joinB (Box.mk x1 y1 x2 y2) (at_ boxes ((at_ items t33.toNat).toNat)))))] [0, 4, 6, 31, 32, 33] [4, 6] [slBox false boxes, .ref 4 0, .ref 6 0, slI false items, I (items.length : Int), I t33] [some (.box [I 0, I 0, I 0, I 0]), some (bxBox (joinB (Box.mk x1 y1 x2 y2) (at_ boxes ((at_ items t33.toNat).toNat))))] [(0 : Int) ≤ (at_ items t33.toNat) ∧ (at_ items t33.toNat) < (boxes.length : Int), Con Try.prog 84 [.agg [I x1, I y1, I x2, I y2], agBox (at_ boxes ((at_ items t33.toNat).toNat))] true (agBox (joinB (Box.mk x1 y1 x2 y2) (at_ boxes ((at_ items t33.toNat).toNat)))) ∧ ((.agg [I x1, I y1, I x2, I y2] : AV) = .agg [I x1, I y1, I x2, I y2]) ∧ ((agBox (at_ boxes ((at_ items t33.toNat).toNat)) : AV) = agBox (at_ boxes ((at_ items t33.toNat).toNat))) ∧ True] (by kernel_rfl) hB ⟨⟨(by omega), (by omega)⟩, ⟨(joinBoxes_ok (Box.mk x1 y1 x2 y2) (at_ boxes ((at_ items t33.toNat).toNat))), rfl, rfl, trivial⟩, trivial⟩ ?_
      refine ae_block 2 ?_
      refine ae_then ?_
      refine aw_reg [] [0, 4, 6, 31, 32, 33] [4, 6] [slBox false boxes, .ref 4 0, .ref 6 0, slI false items, I (items.length : Int), I (t33 + 1)] [some (.box [I 0, I 0, I 0, I 0]), some (bxBox (joinB (Box.mk x1 y1 x2 y2) (at_ boxes ((at_ items t33.toNat).toNat))))] [inR .i64 (t33 + 1)] (by kernel_rfl) hB ⟨(inR_i64 (by omega) (by omega)), trivial⟩ ?_
      refine ae_weak hB [] (T := [(0, slBox false boxes), (4, .ref 4 0), (6, .ref 6 0), (31, slI false items), (32, I (items.length : Int)), (33, I (t33 + 1))]) (O := [(4, .box [I 0, I 0, I 0, I 0]), (6, .box [I ((joinB (Box.mk x1 y1 x2 y2) (at_ boxes ((at_ items t33.toNat).toNat))).X1), I ((joinB (Box.mk x1 y1 x2 y2) (at_ boxes ((at_ items t33.toNat).toNat))).Y1), I ((joinB (Box.mk x1 y1 x2 y2) (at_ boxes ((at_ items t33.toNat).toNat))).X2), I ((joinB (Box.mk x1 y1 x2 y2) (at_ boxes ((at_ items t33.toNat).toNat))).Y2)])]) rfl (⟨.inl rfl, .inl rfl, .inl rfl, .inl rfl, .inl rfl, .inl rfl, trivial⟩) (⟨.inl rfl, .inr ⟨rfl, ⟨rfl, ⟨rfl, ⟨rfl, rfl⟩⟩⟩⟩, trivial⟩) (ae_again _ (by omega) ⟨(t33 + 1), (joinB (Box.mk x1 y1 x2 y2) (at_ boxes ((at_ items t33.toNat).toNat))).X1, (joinB (Box.mk x1 y1 x2 y2) (at_ boxes ((at_ items t33.toNat).toNat))).Y1, (joinB (Box.mk x1 y1 x2 y2) (at_ boxes ((at_ items t33.toNat).toNat))).X2, (joinB (Box.mk x1 y1 x2 y2) (at_ boxes ((at_ items t33.toNat).toNat))).Y2, rfl, (by omega), (by first | (rw [itB_succ (by omega), ← hb1]; done) | (rw [itB_succ (by omega), ← hb1]; rfl)), rfl⟩)
     ·have hie2 : t33.toNat = items.length := by omega
      rw [hie2] at hb1
      refine aw_reg [(0, .dec false)] [0, 4, 6, 31, 32, 33, 34] [4, 6] [slBox false boxes, .ref 4 0, .ref 6 0, slI false items, I (items.length : Int), I t33, Bv false] [some (.box [I 0, I 0, I 0, I 0]), some (.box [I x1, I y1, I x2, I y2])] [¬ (t33 < (items.length : Int))] (by kernel_rfl) hB ⟨h4, trivial⟩ ?_
      refine ae_then ?_
      refine aw_seq ?_
      refine aw_false rfl ?_
      refine aw_exit ?_
      refine ae_exit_then ?_
      refine ae_exit_then ?_
      refine ae_exit_same ?_
      refine ae_then ?_
      refine aw_seq ?_
      refine aw_reg [] [4, 5] [4] [.ref 4 0, I 0] [some (.box [I x1, I y1, I x2, I y2])] [] (by kernel_rfl) hB trivial ?_
      refine ae_then ?_
      refine aw_ret ?_
      refine ae_ret hB (.tup [.agg [I x1, I y1, I x2, I y2], I 0]) (by kernel_rfl) (.inl (by first | (rw [hst]; done) | (rw [hst, ← hb1]))) rfl (fun _ => (by simp [tagged, taggedL]))
   ·have hst := boi_rng h1 h2
    refine aw_reg [(2, .call [(true, slBox false boxes), (true, slI false items)] true (Bv false))] [0, 1, 4, 14] [4] [slBox false boxes, slI false items, .ref 4 0, Bv true] [some (.box [I 0, I 0, I 0, I 0])] [Con Try.prog 83 [slBox false boxes, slI false items] true (Bv false) ∧ ((slBox false boxes : AV) = slBox false boxes) ∧ ((slI false items : AV) = slI false items) ∧ True] (by kernel_rfl) hB ⟨⟨(con_bool h2 (areIndices_ok boxes items (by omega))), rfl, rfl, trivial⟩, trivial⟩ ?_
    refine ae_then ?_
    refine aw_true rfl ?_
    refine aw_seq ?_
    refine aw_reg [] [4, 5] [4] [.ref 4 0, I 2] [some (.box [I 0, I 0, I 0, I 0])] [] (by kernel_rfl) hB trivial ?_
    refine ae_then ?_
    refine aw_ret ?_
    refine ae_ret_block (ae_ret_then ?_)
    refine ae_ret hB (.tup [.agg [I 0, I 0, I 0, I 0], I 2]) (by kernel_rfl) (.inl (by first | (rw [hst]; done) | (rw [hst, ← hb1]))) rfl (fun _ => (by simp [tagged, taggedL]))
  ·have hst := boi_inv (xs := items) h1
   refine aw_reg [(1, .call [(true, slBox false boxes)] true (Bv false))] [0, 1, 4, 9] [4] [slBox false boxes, slI false items, .ref 4 0, Bv true] [some (.box [I 0, I 0, I 0, I 0])] [Con Try.prog 82 [slBox false boxes] true (Bv false) ∧ ((slBox false boxes : AV) = slBox false boxes) ∧ True] (by kernel_rfl) hB ⟨⟨(con_bool h1 (isPage_ok boxes)), rfl, trivial⟩, trivial⟩ ?_
   refine ae_then ?_
   refine aw_true rfl ?_
   refine aw_seq ?_
   refine aw_reg [] [4, 5] [4] [.ref 4 0, I 1] [some (.box [I 0, I 0, I 0, I 0])] [] (by kernel_rfl) hB trivial ?_
   refine ae_then ?_
   refine aw_ret ?_
   refine ae_ret_block (ae_ret_then ?_)
   refine ae_ret hB (.tup [.agg [I 0, I 0, I 0, I 0], I 1]) (by kernel_rfl) (.inl (by first | (rw [hst]; done) | (rw [hst, ← hb1]))) rfl (fun _ => (by simp [tagged, taggedL]))


-- spec.l00Min
theorem l00Min_ok (a : Int) (b : Int) : Con Try.prog 107 [I a, I b] true (I (min a b)) := by
  refine fn_ok (fn := Try.f107) (nt := 10) Try.func107 rfl rfl rfl rfl (by simp [taggedL, tagged]) fun B hB => ?_
  refine aw_seq ?_
  refine aw_reg [] [0, 1] [] [I a, I b] [] [] (by kernel_rfl) hB trivial ?_
  refine ae_then ?_
  refine aw_seq ?_
  refine aw_seq ?_
  by_cases h1 : a < b
  ·refine aw_reg [(2, .dec true)] [0, 1, 7] [] [I a, I b, Bv true] [] [a < b] (by kernel_rfl) hB ⟨h1, trivial⟩ ?_
   refine ae_then ?_
   refine aw_true rfl ?_
   refine aw_seq ?_
   refine aw_reg [] [4] [] [I a] [] [] (by kernel_rfl) hB trivial ?_
   refine ae_then ?_
   refine aw_ret ?_
   refine ae_ret_then ?_
   refine ae_ret hB (I a) (by kernel_rfl) (.inl (by refine congrArg I ?_; omega)) rfl (fun _ => trivial)
  ·refine aw_reg [(2, .dec false)] [0, 1, 7] [] [I a, I b, Bv false] [] [¬ (a < b)] (by kernel_rfl) hB ⟨h1, trivial⟩ ?_
   refine ae_then ?_
   refine aw_false rfl ?_
   refine aw_skip ?_
   refine ae_then ?_
   refine aw_seq ?_
   refine aw_reg [] [4] [] [I b] [] [] (by kernel_rfl) hB trivial ?_
   refine ae_then ?_
   refine aw_ret ?_
   refine ae_ret hB (I b) (by kernel_rfl) (.inl (by refine congrArg I ?_; omega)) rfl (fun _ => trivial)


-- spec.l00Max
theorem l00Max_ok (a : Int) (b : Int) : Con Try.prog 106 [I a, I b] true (I (max a b)) := by
  refine fn_ok (fn := Try.f106) (nt := 10) Try.func106 rfl rfl rfl rfl (by simp [taggedL, tagged]) fun B hB => ?_
  refine aw_seq ?_
  refine aw_reg [] [0, 1] [] [I a, I b] [] [] (by kernel_rfl) hB trivial ?_
  refine ae_then ?_
  refine aw_seq ?_
  refine aw_seq ?_
  by_cases h1 : b < a
  ·refine aw_reg [(2, .dec true)] [0, 1, 7] [] [I a, I b, Bv true] [] [b < a] (by kernel_rfl) hB ⟨h1, trivial⟩ ?_
   refine ae_then ?_
   refine aw_true rfl ?_
   refine aw_seq ?_
   refine aw_reg [] [4] [] [I a] [] [] (by kernel_rfl) hB trivial ?_
   refine ae_then ?_
   refine aw_ret ?_
   refine ae_ret_then ?_
   refine ae_ret hB (I a) (by kernel_rfl) (.inl (by refine congrArg I ?_; omega)) rfl (fun _ => trivial)
  ·refine aw_reg [(2, .dec false)] [0, 1, 7] [] [I a, I b, Bv false] [] [¬ (b < a)] (by kernel_rfl) hB ⟨h1, trivial⟩ ?_
   refine ae_then ?_
   refine aw_false rfl ?_
   refine aw_skip ?_
   refine ae_then ?_
   refine aw_seq ?_
   refine aw_reg [] [4] [] [I b] [] [] (by kernel_rfl) hB trivial ?_
   refine ae_then ?_
   refine aw_ret ?_
   refine ae_ret hB (I b) (by kernel_rfl) (.inl (by refine congrArg I ?_; omega)) rfl (fun _ => trivial)


-- spec.l02Join
theorem l02Join_ok (a : Box) (b : Box) : Con Try.prog 87 [agBox a, agBox b] true (agBox (joinB a b)) := by
  refine fn_ok (fn := Try.f87) (nt := 26) Try.func87 rfl rfl rfl rfl (by simp [taggedL, tagged]) fun B hB => ?_
  refine aw_seq ?_
  refine aw_reg [(0, .new 2), (1, .new 3), (2, .new 4)] [2, 3, 4] [2, 3, 4] [.ref 2 0, .ref 3 0, .ref 4 0] [some (bxBox a), some (bxBox b), some (.box [I 0, I 0, I 0, I 0])] [] (by kernel_rfl) hB trivial ?_
  refine ae_then ?_
  refine aw_seq ?_
  refine aw_reg [(4, .call [(true, I a.X1), (true, I b.X1)] true (I (min a.X1 b.X1))), (9, .call [(true, I a.Y1), (true, I b.Y1)] true (I (min a.Y1 b.Y1))), (14, .call [(true, I a.X2), (true, I b.X2)] true (I (max a.X2 b.X2))), (19, .call [(true, I a.Y2), (true, I b.Y2)] true (I (max a.Y2 b.Y2)))] [4] [4] [.ref 4 0] [some (.box [I (min a.X1 b.X1), I (min a.Y1 b.Y1), I (max a.X2 b.X2), I (max a.Y2 b.Y2)])] [Con Try.prog 107 [I a.X1, I b.X1] true (I (min a.X1 b.X1)) ∧ ((I a.X1 : AV) = I a.X1) ∧ ((I b.X1 : AV) = I b.X1) ∧ True, Con Try.prog 107 [I a.Y1, I b.Y1] true (I (min a.Y1 b.Y1)) ∧ ((I a.Y1 : AV) = I a.Y1) ∧ ((I b.Y1 : AV) = I b.Y1) ∧ True, Con Try.prog 106 [I a.X2, I b.X2] true (I (max a.X2 b.X2)) ∧ ((I a.X2 : AV) = I a.X2) ∧ ((I b.X2 : AV) = I b.X2) ∧ True, Con Try.prog 106 [I a.Y2, I b.Y2] true (I (max a.Y2 b.Y2)) ∧ ((I a.Y2 : AV) = I a.Y2) ∧ ((I b.Y2 : AV) = I b.Y2) ∧ True] (by kernel_rfl) hB ⟨⟨(l00Min_ok a.X1 b.X1), rfl, rfl, trivial⟩, ⟨(l00Min_ok a.Y1 b.Y1), rfl, rfl, trivial⟩, ⟨(l00Max_ok a.X2 b.X2), rfl, rfl, trivial⟩, ⟨(l00Max_ok a.Y2 b.Y2), rfl, rfl, trivial⟩, trivial⟩ ?_
  refine ae_then ?_
  refine aw_ret ?_
  refine ae_ret hB (.agg [I (min a.X1 b.X1), I (min a.Y1 b.Y1), I (max a.X2 b.X2), I (max a.Y2 b.Y2)]) (by kernel_rfl) (.inl (by first | rfl | (refine congrArg Bv ?_; simp [*]; done) | (refine congrArg Bv ?_; simp [*]; omega) | (refine congrArg Bv ?_; simp_all []; done) | (refine congrArg Bv ?_; simp_all []; omega))) rfl (fun _ => (by simp [tagged, taggedL]))


-- spec.BoxOfItems
theorem specBoxOfItems_ok (boxes : List Box) (items : List Int) (hbl : boxes.length ≤ 1000 ∧ items.length ≤ 1000) : Con Try.prog 25 [slBox false boxes, slI false items] true (.tup [agBox ((boiR boxes items).1), I ((boiR boxes items).2)]) := by
  refine fn_ok (fn := Try.f25) (nt := 55) Try.func25 rfl rfl rfl rfl (by simp [taggedL, tagged, tagBox, tagI]) fun B hB => ?_
  refine aw_lens (x := slBox false boxes) 0 rfl (fun len_boxes => ?_)
  simp [LenOK, LenL, cBox, fBox, slBox] at len_boxes
  refine aw_lens (x := slI false items) 1 rfl (fun len_items => ?_)
  simp [LenOK, LenL, cI, fI, slI] at len_items
  refine aw_seq ?_
  refine aw_reg [(0, .new 4)] [0, 1, 4] [4] [slBox false boxes, slI false items, .ref 4 0] [some (.box [I 0, I 0, I 0, I 0])] [] (by kernel_rfl) hB trivial ?_
  refine ae_then ?_
  refine aw_seq ?_
  refine aw_seq ?_
  rcases Bool.eq_false_or_eq_true (okPage boxes) with h1 | h1
  ·refine aw_reg [(1, .call [(true, slBox false boxes)] true (Bv true))] [0, 1, 4, 11] [4] [slBox false boxes, slI false items, .ref 4 0, Bv false] [some (.box [I 0, I 0, I 0, I 0])] [Con Try.prog 85 [slBox false boxes] true (Bv true) ∧ ((slBox false boxes : AV) = slBox false boxes) ∧ True] (by kernel_rfl) hB ⟨⟨(con_bool h1 (l19Boxes_ok boxes)), rfl, trivial⟩, trivial⟩ ?_
   refine ae_then ?_
   refine aw_false rfl ?_
   refine aw_skip ?_
   refine ae_then ?_
   refine aw_seq ?_
   refine aw_seq ?_
   refine aw_reg [] [0, 1, 4, 6] [4] [slBox false boxes, slI false items, .ref 4 0, I 0] [some (.box [I 0, I 0, I 0, I 0])] [] (by kernel_rfl) hB trivial ?_
   refine ae_then ?_
   refine aw_block ?_
   refine aw_loop (fun gn gσ => ∃ (i : Int) (b4_0 : Int) (b4_1 : Int) (b4_2 : Int) (b4_3 : Int), gn = ((items.length : Int) - i).toNat ∧ (0 ≤ i ∧ i ≤ (items.length : Int)) ∧ (∀ j : Nat, (j : Int) < i → inB (at_ items j) 0 ((boxes.length : Int) - 1) = true) ∧ gσ = mkS [(0, slBox false boxes), (1, slI false items), (4, .ref 4 0), (6, I i)] [(4, .box [I b4_0, I b4_1, I b4_2, I b4_3])]) (((items.length : Int) - 0).toNat) ⟨0, 0, 0, 0, 0, rfl, (by omega), (by intro j hj; omega), rfl⟩ (fun gn gσ hI => ?_)
   obtain ⟨i, b4_0, b4_1, b4_2, b4_3, rfl, hi0, hall0, rfl⟩ := hI
   refine aw_seq ?_
   refine aw_seq ?_
   by_cases h2 : i < (items.length : Int)
   ·have hi : i.toNat < items.length := by omega
    refine aw_reg [(3, .dec true)] [0, 1, 4, 6, 16] [4] [slBox false boxes, slI false items, .ref 4 0, I i, Bv true] [some (.box [I b4_0, I b4_1, I b4_2, I b4_3])] [i < (items.length : Int)] (by kernel_rfl) hB ⟨h2, trivial⟩ ?_
    refine ae_then ?_
    refine aw_true rfl ?_
    refine aw_skip ?_
    refine ae_then ?_
    refine aw_seq ?_
    refine aw_block ?_
    refine aw_seq ?_
    rcases Bool.eq_false_or_eq_true (inB (at_ items i.toNat) 0 ((boxes.length : Int) - 1)) with h3 | h3
    ·have hok := h3
     refine aw_reg [(7, .call [(true, I (at_ items i.toNat)), (true, I 0), (true, I ((boxes.length : Int) - 1))] true (Bv true))] [0, 1, 4, 6, 27] [4] [slBox false boxes, slI false items, .ref 4 0, I i, Bv false] [some (.box [I b4_0, I b4_1, I b4_2, I b4_3])] [(0 : Int) ≤ i ∧ i < (items.length : Int), inR .i64 ((boxes.length : Int) - 1), Con Try.prog 86 [I (at_ items i.toNat), I 0, I ((boxes.length : Int) - 1)] true (Bv true) ∧ ((I (at_ items i.toNat) : AV) = I (at_ items i.toNat)) ∧ ((I 0 : AV) = I 0) ∧ ((I ((boxes.length : Int) - 1) : AV) = I ((boxes.length : Int) - 1)) ∧ True] (by kernel_rfl) hB ⟨⟨(by omega), (by omega)⟩, (inR_i64 (by omega) (by omega)), ⟨(con_bool h3 (l00In_ok (at_ items i.toNat) 0 ((boxes.length : Int) - 1))), rfl, rfl, rfl, trivial⟩, trivial⟩ ?_
     refine ae_then ?_
     refine aw_false rfl ?_
     refine aw_skip ?_
     refine ae_block 1 ?_
     refine ae_then ?_
     refine aw_reg [] [0, 1, 4, 6] [4] [slBox false boxes, slI false items, .ref 4 0, I (i + 1)] [some (.box [I b4_0, I b4_1, I b4_2, I b4_3])] [inR .i64 (i + 1)] (by kernel_rfl) hB ⟨(inR_i64 (by omega) (by omega)), trivial⟩ ?_
     exact ae_again _ (by omega) ⟨(i + 1), b4_0, b4_1, b4_2, b4_3, rfl, (by omega), (by intro j hj; by_cases ej : j = i.toNat; (subst ej; exact hok); exact hall0 j (by omega)), rfl⟩
    ·have hst := boi_rng h1 (show inIx boxes items = false from allN_not hi h3)
     refine aw_reg [(7, .call [(true, I (at_ items i.toNat)), (true, I 0), (true, I ((boxes.length : Int) - 1))] true (Bv false))] [0, 1, 4, 6, 27] [4] [slBox false boxes, slI false items, .ref 4 0, I i, Bv true] [some (.box [I b4_0, I b4_1, I b4_2, I b4_3])] [(0 : Int) ≤ i ∧ i < (items.length : Int), inR .i64 ((boxes.length : Int) - 1), Con Try.prog 86 [I (at_ items i.toNat), I 0, I ((boxes.length : Int) - 1)] true (Bv false) ∧ ((I (at_ items i.toNat) : AV) = I (at_ items i.toNat)) ∧ ((I 0 : AV) = I 0) ∧ ((I ((boxes.length : Int) - 1) : AV) = I ((boxes.length : Int) - 1)) ∧ True] (by kernel_rfl) hB ⟨⟨(by omega), (by omega)⟩, (inR_i64 (by omega) (by omega)), ⟨(con_bool h3 (l00In_ok (at_ items i.toNat) 0 ((boxes.length : Int) - 1))), rfl, rfl, rfl, trivial⟩, trivial⟩ ?_
     refine ae_then ?_
     refine aw_true rfl ?_
     refine aw_seq ?_
     refine aw_reg [] [4, 5] [4] [.ref 4 0, I 2] [some (.box [I 0, I 0, I 0, I 0])] [] (by kernel_rfl) hB trivial ?_
     refine ae_then ?_
     refine aw_ret ?_
     refine ae_ret_block (ae_ret_then (ae_ret_then (ae_ret_block (ae_ret_then ?_))))
     refine ae_ret hB (.tup [.agg [I 0, I 0, I 0, I 0], I 2]) (by kernel_rfl) (.inl (by first | (rw [hst]; done) | (rw [hst, ← hb1]))) rfl (fun _ => (by simp [tagged, taggedL]))
   ·have hixx : inIx boxes items = true := allN_at (fun j hj => hall0 j (by omega))
    refine aw_reg [(3, .dec false)] [0, 1, 4, 6, 16] [4] [slBox false boxes, slI false items, .ref 4 0, I i, Bv false] [some (.box [I b4_0, I b4_1, I b4_2, I b4_3])] [¬ (i < (items.length : Int))] (by kernel_rfl) hB ⟨h2, trivial⟩ ?_
    refine ae_then ?_
    refine aw_false rfl ?_
    refine aw_exit ?_
    refine ae_exit_then ?_
    refine ae_exit_then ?_
    refine ae_exit_same ?_
    refine ae_then ?_
    refine aw_seq ?_
    refine aw_seq ?_
    by_cases h4 : (items.length : Int) = 0
    ·have hst := boi_st h1 hixx h4
     refine aw_reg [(2, .dec true)] [0, 1, 4, 31] [4] [slBox false boxes, slI false items, .ref 4 0, Bv true] [some (.box [I b4_0, I b4_1, I b4_2, I b4_3])] [(items.length : Int) = 0] (by kernel_rfl) hB ⟨h4, trivial⟩ ?_
     refine ae_then ?_
     refine aw_true rfl ?_
     refine aw_seq ?_
     refine aw_reg [] [4, 5] [4] [.ref 4 0, I 6] [some (.box [I 0, I 0, I 0, I 0])] [] (by kernel_rfl) hB trivial ?_
     refine ae_then ?_
     refine aw_ret ?_
     refine ae_ret_then ?_
     refine ae_ret hB (.tup [.agg [I 0, I 0, I 0, I 0], I 6]) (by kernel_rfl) (.inl (by first | (rw [hst]; done) | (rw [hst, ← hb1]))) rfl (fun _ => (by simp [tagged, taggedL]))
    ·have hst := boi_yes h1 hixx h4
     have hx0 := inIx_at hixx (j := 0) (by omega)
     refine aw_reg [(2, .dec false)] [0, 1, 4, 31] [4] [slBox false boxes, slI false items, .ref 4 0, Bv false] [some (.box [I b4_0, I b4_1, I b4_2, I b4_3])] [¬ ((items.length : Int) = 0)] (by kernel_rfl) hB ⟨h4, trivial⟩ ?_
     refine ae_then ?_
     refine aw_false rfl ?_
     refine aw_skip ?_
     refine ae_then ?_
     refine aw_seq ?_
     refine aw_reg [(6, .new 7)] [0, 1, 4, 7] [4, 7] [slBox false boxes, slI false items, .ref 4 0, .ref 7 0] [some (.box [I b4_0, I b4_1, I b4_2, I b4_3]), some (bxBox (at_ boxes ((at_ items 0).toNat)))] [(0 : Int) ≤ 0 ∧ 0 < (items.length : Int), (0 : Int) ≤ (at_ items 0) ∧ (at_ items 0) < (boxes.length : Int)] (by kernel_rfl) hB ⟨⟨(by omega), (by omega)⟩, ⟨(by omega), (by omega)⟩, trivial⟩ ?_
     refine ae_then ?_
     refine aw_seq ?_
     refine aw_seq ?_
     refine aw_reg [] [0, 1, 4, 7, 8] [4, 7] [slBox false boxes, slI false items, .ref 4 0, .ref 7 0, I 1] [some (.box [I b4_0, I b4_1, I b4_2, I b4_3]), some (bxBox (at_ boxes ((at_ items 0).toNat)))] [] (by kernel_rfl) hB trivial ?_
     refine ae_then ?_
     refine aw_block ?_
     refine aw_weak hB [] (T := [(0, slBox false boxes), (1, slI false items), (4, .ref 4 0), (7, .ref 7 0), (8, I 1)]) (O := [(4, .box [I b4_0, I b4_1, I b4_2, I b4_3]), (7, .box [I ((at_ boxes ((at_ items 0).toNat)).X1), I ((at_ boxes ((at_ items 0).toNat)).Y1), I ((at_ boxes ((at_ items 0).toNat)).X2), I ((at_ boxes ((at_ items 0).toNat)).Y2)])]) rfl (⟨.inl rfl, .inl rfl, .inl rfl, .inl rfl, .inl rfl, trivial⟩) (⟨.inl rfl, .inr ⟨rfl, ⟨rfl, ⟨rfl, ⟨rfl, rfl⟩⟩⟩⟩, trivial⟩) ?_
     refine aw_loop (fun gn gσ => ∃ (i' : Int) (x1 : Int) (y1 : Int) (x2 : Int) (y2 : Int), gn = ((items.length : Int) - i').toNat ∧ (1 ≤ i' ∧ i' ≤ (items.length : Int)) ∧ (Box.mk x1 y1 x2 y2 = itB boxes items i'.toNat) ∧ gσ = mkS [(0, slBox false boxes), (1, slI false items), (4, .ref 4 0), (7, .ref 7 0), (8, I i')] [(4, .box [I b4_0, I b4_1, I b4_2, I b4_3]), (7, .box [I x1, I y1, I x2, I y2])]) (((items.length : Int) - 1).toNat) ⟨1, (at_ boxes ((at_ items 0).toNat)).X1, (at_ boxes ((at_ items 0).toNat)).Y1, (at_ boxes ((at_ items 0).toNat)).X2, (at_ boxes ((at_ items 0).toNat)).Y2, rfl, (by omega), (by first | rfl | exact (itB_one _ _).symm), rfl⟩ (fun gn gσ hI => ?_)
     obtain ⟨i', x1, y1, x2, y2, rfl, hj0, hb1, rfl⟩ := hI
     refine aw_seq ?_
     refine aw_seq ?_
     by_cases h5 : i' < (items.length : Int)
     ·have hi2 : i'.toNat < items.length := by omega
      have hxi := inIx_at hixx hi2
      refine aw_reg [(3, .dec true)] [0, 1, 4, 7, 8, 42] [4, 7] [slBox false boxes, slI false items, .ref 4 0, .ref 7 0, I i', Bv true] [some (.box [I b4_0, I b4_1, I b4_2, I b4_3]), some (.box [I x1, I y1, I x2, I y2])] [i' < (items.length : Int)] (by kernel_rfl) hB ⟨h5, trivial⟩ ?_
      refine ae_then ?_
      refine aw_true rfl ?_
      refine aw_skip ?_
      refine ae_then ?_
      refine aw_seq ?_
      refine aw_block ?_
      refine aw_reg [(8, .call [(true, .agg [I x1, I y1, I x2, I y2]), (true, agBox (at_ boxes ((at_ items i'.toNat).toNat)))] true (agBox (joinB (Box.mk x1 y1 x2 y2) (at_ boxes ((at_ items i'.toNat).toNat)))))] [0, 1, 4, 7, 8] [4, 7] [slBox false boxes, slI false items, .ref 4 0, .ref 7 0, I i'] [some (.box [I b4_0, I b4_1, I b4_2, I b4_3]), some (bxBox (joinB (Box.mk x1 y1 x2 y2) (at_ boxes ((at_ items i'.toNat).toNat))))] [(0 : Int) ≤ i' ∧ i' < (items.length : Int), (0 : Int) ≤ (at_ items i'.toNat) ∧ (at_ items i'.toNat) < (boxes.length : Int), Con Try.prog 87 [.agg [I x1, I y1, I x2, I y2], agBox (at_ boxes ((at_ items i'.toNat).toNat))] true (agBox (joinB (Box.mk x1 y1 x2 y2) (at_ boxes ((at_ items i'.toNat).toNat)))) ∧ ((.agg [I x1, I y1, I x2, I y2] : AV) = .agg [I x1, I y1, I x2, I y2]) ∧ ((agBox (at_ boxes ((at_ items i'.toNat).toNat)) : AV) = agBox (at_ boxes ((at_ items i'.toNat).toNat))) ∧ True] (by kernel_rfl) hB ⟨⟨(by omega), (by omega)⟩, ⟨(by omega), (by omega)⟩, ⟨(l02Join_ok (Box.mk x1 y1 x2 y2) (at_ boxes ((at_ items i'.toNat).toNat))), rfl, rfl, trivial⟩, trivial⟩ ?_
      refine ae_block 3 ?_
      refine ae_then ?_
      refine aw_reg [] [0, 1, 4, 7, 8] [4, 7] [slBox false boxes, slI false items, .ref 4 0, .ref 7 0, I (i' + 1)] [some (.box [I b4_0, I b4_1, I b4_2, I b4_3]), some (bxBox (joinB (Box.mk x1 y1 x2 y2) (at_ boxes ((at_ items i'.toNat).toNat))))] [inR .i64 (i' + 1)] (by kernel_rfl) hB ⟨(inR_i64 (by omega) (by omega)), trivial⟩ ?_
      refine ae_weak hB [] (T := [(0, slBox false boxes), (1, slI false items), (4, .ref 4 0), (7, .ref 7 0), (8, I (i' + 1))]) (O := [(4, .box [I b4_0, I b4_1, I b4_2, I b4_3]), (7, .box [I ((joinB (Box.mk x1 y1 x2 y2) (at_ boxes ((at_ items i'.toNat).toNat))).X1), I ((joinB (Box.mk x1 y1 x2 y2) (at_ boxes ((at_ items i'.toNat).toNat))).Y1), I ((joinB (Box.mk x1 y1 x2 y2) (at_ boxes ((at_ items i'.toNat).toNat))).X2), I ((joinB (Box.mk x1 y1 x2 y2) (at_ boxes ((at_ items i'.toNat).toNat))).Y2)])]) rfl (⟨.inl rfl, .inl rfl, .inl rfl, .inl rfl, .inl rfl, trivial⟩) (⟨.inl rfl, .inr ⟨rfl, ⟨rfl, ⟨rfl, ⟨rfl, rfl⟩⟩⟩⟩, trivial⟩) (ae_again _ (by omega) ⟨(i' + 1), (joinB (Box.mk x1 y1 x2 y2) (at_ boxes ((at_ items i'.toNat).toNat))).X1, (joinB (Box.mk x1 y1 x2 y2) (at_ boxes ((at_ items i'.toNat).toNat))).Y1, (joinB (Box.mk x1 y1 x2 y2) (at_ boxes ((at_ items i'.toNat).toNat))).X2, (joinB (Box.mk x1 y1 x2 y2) (at_ boxes ((at_ items i'.toNat).toNat))).Y2, rfl, (by omega), (by first | (rw [itB_succ (by omega), ← hb1]; done) | (rw [itB_succ (by omega), ← hb1]; rfl)), rfl⟩)
     ·have hie2 : i'.toNat = items.length := by omega
      rw [hie2] at hb1
      refine aw_reg [(3, .dec false)] [0, 1, 4, 7, 8, 42] [4, 7] [slBox false boxes, slI false items, .ref 4 0, .ref 7 0, I i', Bv false] [some (.box [I b4_0, I b4_1, I b4_2, I b4_3]), some (.box [I x1, I y1, I x2, I y2])] [¬ (i' < (items.length : Int))] (by kernel_rfl) hB ⟨h5, trivial⟩ ?_
      refine ae_then ?_
      refine aw_false rfl ?_
      refine aw_exit ?_
      refine ae_exit_then ?_
      refine ae_exit_then ?_
      refine ae_exit_same ?_
      refine ae_then ?_
      refine aw_seq ?_
      refine aw_reg [] [4, 5] [4] [.ref 4 0, I 0] [some (.box [I x1, I y1, I x2, I y2])] [] (by kernel_rfl) hB trivial ?_
      refine ae_then ?_
      refine aw_ret ?_
      refine ae_ret hB (.tup [.agg [I x1, I y1, I x2, I y2], I 0]) (by kernel_rfl) (.inl (by first | (rw [hst]; done) | (rw [hst, ← hb1]))) rfl (fun _ => (by simp [tagged, taggedL]))
  ·have hst := boi_inv (xs := items) h1
   refine aw_reg [(1, .call [(true, slBox false boxes)] true (Bv false))] [0, 1, 4, 11] [4] [slBox false boxes, slI false items, .ref 4 0, Bv true] [some (.box [I 0, I 0, I 0, I 0])] [Con Try.prog 85 [slBox false boxes] true (Bv false) ∧ ((slBox false boxes : AV) = slBox false boxes) ∧ True] (by kernel_rfl) hB ⟨⟨(con_bool h1 (l19Boxes_ok boxes)), rfl, trivial⟩, trivial⟩ ?_
   refine ae_then ?_
   refine aw_true rfl ?_
   refine aw_seq ?_
   refine aw_reg [] [4, 5] [4] [.ref 4 0, I 1] [some (.box [I 0, I 0, I 0, I 0])] [] (by kernel_rfl) hB trivial ?_
   refine ae_then ?_
   refine aw_ret ?_
   refine ae_ret_then ?_
   refine ae_ret hB (.tup [.agg [I 0, I 0, I 0, I 0], I 1]) (by kernel_rfl) (.inl (by first | (rw [hst]; done) | (rw [hst, ← hb1]))) rfl (fun _ => (by simp [tagged, taggedL]))


-- laws.FnGapLimits
theorem fnGapLimits_con (code : List Int) (ok_code : ∀ y ∈ code, inR .u8 y) : Con Try.prog 5 [slU8 false code] true (Bv true) := by
  refine fn_ok (fn := Try.f5) (nt := 96) Try.func5 rfl rfl rfl rfl (by simp [taggedL, tagged, tagU8]) fun B hB => ?_
  refine aw_lens (x := slU8 false code) 0 rfl (fun len_code => ?_)
  simp [LenOK, LenL, cU8, fU8, slU8] at len_code
  refine aw_seq ?_
  refine aw_reg [] [0] [] [slU8 false code] [] [] (by kernel_rfl) hB trivial ?_
  refine ae_then ?_
  refine aw_seq ?_
  refine aw_seq ?_
  rcases Bool.eq_false_or_eq_true (decide (4096 < (code.length : Int))) with h1 | h1
  ·refine aw_reg [(1, .call [(true, slU8 false code)] true (Bv true))] [0, 18] [] [slU8 false code, Bv true] [] [Con Try.prog 19 [slU8 false code] true (Bv true) ∧ ((slU8 false code : AV) = slU8 false code) ∧ True] (by kernel_rfl) hB ⟨⟨(con_bool h1 (f6big_ok code)), rfl, trivial⟩, trivial⟩ ?_
   refine ae_then ?_
   refine aw_true rfl ?_
   refine aw_seq ?_
   refine aw_reg [] [2] [] [Bv true] [] [] (by kernel_rfl) hB trivial ?_
   refine ae_then ?_
   refine aw_ret ?_
   refine ae_ret_then ?_
   refine ae_ret hB (Bv true) (by kernel_rfl) (.inl rfl) rfl (fun _ => trivial)
  ·have hc : (∀ j, j < code.length → 0 ≤ at_ code j ∧ at_ code j ≤ 255) ∧ code.length ≤ 4611686018427387904 := ⟨fun j hj => ok_code _ (at_mem hj), by first | omega | (simp at h1; omega)⟩
   refine aw_reg [(1, .call [(true, slU8 false code)] true (Bv false))] [0, 18] [] [slU8 false code, Bv false] [] [Con Try.prog 19 [slU8 false code] true (Bv false) ∧ ((slU8 false code : AV) = slU8 false code) ∧ True] (by kernel_rfl) hB ⟨⟨(con_bool h1 (f6big_ok code)), rfl, trivial⟩, trivial⟩ ?_
   refine ae_then ?_
   refine aw_false rfl ?_
   refine aw_skip ?_
   refine ae_then ?_
   refine aw_seq ?_
   obtain ⟨v_1, hx1_0, hc1⟩ := DrawGapLimit_ok code (by assumption)
   refine aw_reg [(1, .call [(true, slU8 false code)] true (slI true v_1))] [0, 3] [] [slU8 false code, slI true v_1] [] [Con Try.prog 20 [slU8 false code] true (slI true v_1) ∧ ((slU8 false code : AV) = slU8 false code) ∧ True] (by kernel_rfl) hB ⟨⟨hc1, rfl, trivial⟩, trivial⟩ ?_
   refine ae_then ?_
   refine aw_seq ?_
   refine aw_reg [(1, .call [(false, slI false v_1)] true (.tup [I ((gapR v_1).1), I ((gapR v_1).2)]))] [0, 3, 4, 5] [] [slU8 false code, slI true v_1, I ((gapR v_1).1), I ((gapR v_1).2)] [] [Con Try.prog 21 [slI false v_1] true (.tup [I ((gapR v_1).1), I ((gapR v_1).2)]) ∧ ((false = true → true = true) ∧ 1 = 1 ∧ v_1.length = v_1.length ∧ ∀ i, i < v_1.length → (fI v_1) i = (fI v_1) i ∨ (AV.idsL ((fI v_1) i) = [] ∧ leL (fun _ => none) false ((fI v_1) i) ((fI v_1) i))) ∧ True] (by kernel_rfl) hB ⟨⟨(implGapLimit_ok v_1 (by omega)), ⟨(fun h => by cases h), rfl, rfl, fun i _ => .inl rfl⟩, trivial⟩, trivial⟩ ?_
   refine ae_then ?_
   refine aw_seq ?_
   refine aw_reg [(1, .call [(false, slI false v_1)] true (.tup [I ((gapR v_1).1), I ((gapR v_1).2)]))] [0, 3, 4, 5, 6, 7] [] [slU8 false code, slI true v_1, I ((gapR v_1).1), I ((gapR v_1).2), I ((gapR v_1).1), I ((gapR v_1).2)] [] [Con Try.prog 22 [slI false v_1] true (.tup [I ((gapR v_1).1), I ((gapR v_1).2)]) ∧ ((false = true → true = true) ∧ 1 = 1 ∧ v_1.length = v_1.length ∧ ∀ i, i < v_1.length → (fI v_1) i = (fI v_1) i ∨ (AV.idsL ((fI v_1) i) = [] ∧ leL (fun _ => none) false ((fI v_1) i) ((fI v_1) i))) ∧ True] (by kernel_rfl) hB ⟨⟨(specGapLimit_ok v_1 (by omega)), ⟨(fun h => by cases h), rfl, rfl, fun i _ => .inl rfl⟩, trivial⟩, trivial⟩ ?_
   refine ae_then ?_
   refine aw_seq ?_
   obtain ⟨boxes_2, items_2, hx2_0, hx2_1, hc2⟩ := DrawBoxOfItems_ok code (by assumption)
   refine aw_reg [(1, .call [(true, slU8 false code)] true (.tup [slBox true boxes_2, slI true items_2]))] [3, 4, 5, 6, 7, 8, 9] [] [slI true v_1, I ((gapR v_1).1), I ((gapR v_1).2), I ((gapR v_1).1), I ((gapR v_1).2), slBox true boxes_2, slI true items_2] [] [Con Try.prog 23 [slU8 false code] true (.tup [slBox true boxes_2, slI true items_2]) ∧ ((slU8 false code : AV) = slU8 false code) ∧ True] (by kernel_rfl) hB ⟨⟨hc2, rfl, trivial⟩, trivial⟩ ?_
   refine ae_then ?_
   refine aw_seq ?_
   refine aw_reg [(2, .call [(false, slBox false boxes_2), (false, slI false items_2)] true (.tup [agBox ((boiR boxes_2 items_2).1), I ((boiR boxes_2 items_2).2)])), (6, .new 10)] [3, 4, 5, 6, 7, 8, 9, 10, 11] [10] [slI true v_1, I ((gapR v_1).1), I ((gapR v_1).2), I ((gapR v_1).1), I ((gapR v_1).2), slBox true boxes_2, slI true items_2, .ref 10 0, I ((boiR boxes_2 items_2).2)] [some (bxBox ((boiR boxes_2 items_2).1))] [Con Try.prog 24 [slBox false boxes_2, slI false items_2] true (.tup [agBox ((boiR boxes_2 items_2).1), I ((boiR boxes_2 items_2).2)]) ∧ ((false = true → true = true) ∧ 4 = 4 ∧ boxes_2.length = boxes_2.length ∧ ∀ i, i < boxes_2.length → (fBox boxes_2) i = (fBox boxes_2) i ∨ (AV.idsL ((fBox boxes_2) i) = [] ∧ leL (fun _ => none) false ((fBox boxes_2) i) ((fBox boxes_2) i))) ∧ ((false = true → true = true) ∧ 1 = 1 ∧ items_2.length = items_2.length ∧ ∀ i, i < items_2.length → (fI items_2) i = (fI items_2) i ∨ (AV.idsL ((fI items_2) i) = [] ∧ leL (fun _ => none) false ((fI items_2) i) ((fI items_2) i))) ∧ True] (by kernel_rfl) hB ⟨⟨(implBoxOfItems_ok boxes_2 items_2 (by omega)), ⟨(fun h => by cases h), rfl, rfl, fun i _ => .inl rfl⟩, ⟨(fun h => by cases h), rfl, rfl, fun i _ => .inl rfl⟩, trivial⟩, trivial⟩ ?_
   refine ae_then ?_
   refine aw_seq ?_
   refine aw_reg [(2, .call [(false, slBox false boxes_2), (false, slI false items_2)] true (.tup [agBox ((boiR boxes_2 items_2).1), I ((boiR boxes_2 items_2).2)])), (6, .new 12)] [3, 4, 5, 6, 7, 10, 11, 12, 13] [10, 12] [slI true v_1, I ((gapR v_1).1), I ((gapR v_1).2), I ((gapR v_1).1), I ((gapR v_1).2), .ref 10 0, I ((boiR boxes_2 items_2).2), .ref 12 0, I ((boiR boxes_2 items_2).2)] [some (bxBox ((boiR boxes_2 items_2).1)), some (bxBox ((boiR boxes_2 items_2).1))] [Con Try.prog 25 [slBox false boxes_2, slI false items_2] true (.tup [agBox ((boiR boxes_2 items_2).1), I ((boiR boxes_2 items_2).2)]) ∧ ((false = true → true = true) ∧ 4 = 4 ∧ boxes_2.length = boxes_2.length ∧ ∀ i, i < boxes_2.length → (fBox boxes_2) i = (fBox boxes_2) i ∨ (AV.idsL ((fBox boxes_2) i) = [] ∧ leL (fun _ => none) false ((fBox boxes_2) i) ((fBox boxes_2) i))) ∧ ((false = true → true = true) ∧ 1 = 1 ∧ items_2.length = items_2.length ∧ ∀ i, i < items_2.length → (fI items_2) i = (fI items_2) i ∨ (AV.idsL ((fI items_2) i) = [] ∧ leL (fun _ => none) false ((fI items_2) i) ((fI items_2) i))) ∧ True] (by kernel_rfl) hB ⟨⟨(specBoxOfItems_ok boxes_2 items_2 (by omega)), ⟨(fun h => by cases h), rfl, rfl, fun i _ => .inl rfl⟩, ⟨(fun h => by cases h), rfl, rfl, fun i _ => .inl rfl⟩, trivial⟩, trivial⟩ ?_
   refine ae_then ?_
   refine aw_seq ?_
   refine aw_seq ?_
   refine aw_reg [(2, .dec false), (6, .dec false), (11, .dec false), (16, .dec false)] [3, 4, 5, 65] [] [slI true v_1, I ((gapR v_1).1), I ((gapR v_1).2), Bv false] [] [¬ (((gapR v_1).2) ≠ ((gapR v_1).2)), ¬ (((gapR v_1).1) ≠ ((gapR v_1).1)), ¬ (((boiR boxes_2 items_2).2) ≠ ((boiR boxes_2 items_2).2)), ¬ (¬ ((((boiR boxes_2 items_2).1).X1) = (((boiR boxes_2 items_2).1).X1) ∧ (((boiR boxes_2 items_2).1).Y1) = (((boiR boxes_2 items_2).1).Y1) ∧ (((boiR boxes_2 items_2).1).X2) = (((boiR boxes_2 items_2).1).X2) ∧ (((boiR boxes_2 items_2).1).Y2) = (((boiR boxes_2 items_2).1).Y2) ∧ True))] (by kernel_rfl) hB ⟨(fun hq => hq rfl), (fun hq => hq rfl), (fun hq => hq rfl), (fun hq => hq ⟨rfl, rfl, rfl, rfl, trivial⟩), trivial⟩ ?_
   refine ae_then ?_
   refine aw_false rfl ?_
   refine aw_skip ?_
   refine ae_then ?_
   refine aw_seq ?_
   refine aw_seq ?_
   by_cases h2 : ((gapR v_1).2) = 0
   ·have hgl := gap_law h2
    refine aw_reg [(1, .dec false)] [3, 4, 67] [] [slI true v_1, I ((gapR v_1).1), Bv false] [] [¬ (((gapR v_1).2) ≠ 0)] (by kernel_rfl) hB ⟨(fun hq => hq h2), trivial⟩ ?_
    refine ae_then ?_
    refine aw_false rfl ?_
    refine aw_skip ?_
    refine ae_then ?_
    refine aw_seq ?_
    refine aw_reg [] [3, 4, 14] [] [slI true v_1, I ((gapR v_1).1), Bv false] [] [] (by kernel_rfl) hB trivial ?_
    refine ae_then ?_
    refine aw_seq ?_
    refine aw_reg [] [3, 4, 14, 15] [] [slI true v_1, I ((gapR v_1).1), Bv false, Bv false] [] [] (by kernel_rfl) hB trivial ?_
    refine ae_then ?_
    refine aw_seq ?_
    refine aw_seq ?_
    refine aw_reg [] [3, 4, 14, 15, 16] [] [slI true v_1, I ((gapR v_1).1), Bv false, Bv false, I 0] [] [] (by kernel_rfl) hB trivial ?_
    refine ae_then ?_
    refine aw_block ?_
    refine aw_loop (fun gn gσ => ∃ (found : Bool) (wide : Bool) (i : Int), gn = ((v_1.length : Int) - i).toNat ∧ (0 ≤ i ∧ i ≤ (v_1.length : Int)) ∧ ((found = true ↔ ∃ j, j < i.toNat ∧ at_ v_1 j = (gapR v_1).1)) ∧ ((wide = true ↔ ∃ j, j < i.toNat ∧ (gapR v_1).1 < at_ v_1 j)) ∧ gσ = mkS [(3, slI true v_1), (4, I ((gapR v_1).1)), (14, Bv found), (15, Bv wide), (16, I i)] []) (((v_1.length : Int) - 0).toNat) ⟨false, false, 0, rfl, (by omega), (by simp), (by simp), rfl⟩ (fun gn gσ hI => ?_)
    obtain ⟨found, wide, i, rfl, hi0, hf0, hf1, rfl⟩ := hI
    refine aw_seq ?_
    refine aw_seq ?_
    by_cases h3 : i < (v_1.length : Int)
    ·have hi : i.toNat < v_1.length := by omega
     refine aw_reg [(3, .dec true)] [3, 4, 14, 15, 16, 71] [] [slI true v_1, I ((gapR v_1).1), Bv found, Bv wide, I i, Bv true] [] [i < (v_1.length : Int)] (by kernel_rfl) hB ⟨h3, trivial⟩ ?_
     refine ae_then ?_
     refine aw_true rfl ?_
     refine aw_skip ?_
     refine ae_then ?_
     refine aw_seq ?_
     refine aw_block ?_
     refine aw_seq ?_
     rcases Bool.eq_false_or_eq_true found with h4 | h4
     ·subst h4
      refine aw_reg [] [3, 4, 14, 15, 16] [] [slI true v_1, I ((gapR v_1).1), Bv true, Bv wide, I i] [] [] (by kernel_rfl) hB trivial ?_
      refine ae_then ?_
      rcases Bool.eq_false_or_eq_true wide with h5 | h5
      ·subst h5
       refine aw_reg [] [3, 4, 14, 15, 16] [] [slI true v_1, I ((gapR v_1).1), Bv true, Bv true, I i] [] [] (by kernel_rfl) hB trivial ?_
       refine ae_block 1 ?_
       refine ae_then ?_
       refine aw_reg [] [3, 4, 14, 15, 16] [] [slI true v_1, I ((gapR v_1).1), Bv true, Bv true, I (i + 1)] [] [inR .i64 (i + 1)] (by kernel_rfl) hB ⟨(inR_i64 (by omega) (by omega)), trivial⟩ ?_
       exact ae_again _ (by omega) ⟨true, true, (i + 1), rfl, (by omega), (by first | exact any_next hf0 hi0.1 (by constructor; (intro q; first | exact .inl rfl | exact .inr (by assumption) | cases q); (intro q; first | rfl | (rcases q with q | q; (cases q); (exact absurd q (by assumption))))) | exact any_next hf1 hi0.1 (by constructor; (intro q; first | exact .inl rfl | exact .inr (by assumption) | cases q); (intro q; first | rfl | (rcases q with q | q; (cases q); (exact absurd q (by assumption)))))), (by first | exact any_next hf0 hi0.1 (by constructor; (intro q; first | exact .inl rfl | exact .inr (by assumption) | cases q); (intro q; first | rfl | (rcases q with q | q; (cases q); (exact absurd q (by assumption))))) | exact any_next hf1 hi0.1 (by constructor; (intro q; first | exact .inl rfl | exact .inr (by assumption) | cases q); (intro q; first | rfl | (rcases q with q | q; (cases q); (exact absurd q (by assumption)))))), rfl⟩
      ·subst h5
       by_cases h6 : ((gapR v_1).1) < (at_ v_1 i.toNat)
       ·refine aw_reg [(7, .dec true)] [3, 4, 14, 15, 16] [] [slI true v_1, I ((gapR v_1).1), Bv true, Bv true, I i] [] [(0 : Int) ≤ i ∧ i < (v_1.length : Int), ((gapR v_1).1) < (at_ v_1 i.toNat)] (by kernel_rfl) hB ⟨⟨(by omega), (by omega)⟩, h6, trivial⟩ ?_
        refine ae_block 1 ?_
        refine ae_then ?_
        refine aw_reg [] [3, 4, 14, 15, 16] [] [slI true v_1, I ((gapR v_1).1), Bv true, Bv true, I (i + 1)] [] [inR .i64 (i + 1)] (by kernel_rfl) hB ⟨(inR_i64 (by omega) (by omega)), trivial⟩ ?_
        exact ae_again _ (by omega) ⟨true, true, (i + 1), rfl, (by omega), (by first | exact any_next hf0 hi0.1 (by constructor; (intro q; first | exact .inl rfl | exact .inr (by assumption) | cases q); (intro q; first | rfl | (rcases q with q | q; (cases q); (exact absurd q (by assumption))))) | exact any_next hf1 hi0.1 (by constructor; (intro q; first | exact .inl rfl | exact .inr (by assumption) | cases q); (intro q; first | rfl | (rcases q with q | q; (cases q); (exact absurd q (by assumption)))))), (by first | exact any_next hf0 hi0.1 (by constructor; (intro q; first | exact .inl rfl | exact .inr (by assumption) | cases q); (intro q; first | rfl | (rcases q with q | q; (cases q); (exact absurd q (by assumption))))) | exact any_next hf1 hi0.1 (by constructor; (intro q; first | exact .inl rfl | exact .inr (by assumption) | cases q); (intro q; first | rfl | (rcases q with q | q; (cases q); (exact absurd q (by assumption)))))), rfl⟩
       ·refine aw_reg [(7, .dec false)] [3, 4, 14, 15, 16] [] [slI true v_1, I ((gapR v_1).1), Bv true, Bv false, I i] [] [(0 : Int) ≤ i ∧ i < (v_1.length : Int), ¬ (((gapR v_1).1) < (at_ v_1 i.toNat))] (by kernel_rfl) hB ⟨⟨(by omega), (by omega)⟩, h6, trivial⟩ ?_
        refine ae_block 1 ?_
        refine ae_then ?_
        refine aw_reg [] [3, 4, 14, 15, 16] [] [slI true v_1, I ((gapR v_1).1), Bv true, Bv false, I (i + 1)] [] [inR .i64 (i + 1)] (by kernel_rfl) hB ⟨(inR_i64 (by omega) (by omega)), trivial⟩ ?_
        exact ae_again _ (by omega) ⟨true, false, (i + 1), rfl, (by omega), (by first | exact any_next hf0 hi0.1 (by constructor; (intro q; first | exact .inl rfl | exact .inr (by assumption) | cases q); (intro q; first | rfl | (rcases q with q | q; (cases q); (exact absurd q (by assumption))))) | exact any_next hf1 hi0.1 (by constructor; (intro q; first | exact .inl rfl | exact .inr (by assumption) | cases q); (intro q; first | rfl | (rcases q with q | q; (cases q); (exact absurd q (by assumption)))))), (by first | exact any_next hf0 hi0.1 (by constructor; (intro q; first | exact .inl rfl | exact .inr (by assumption) | cases q); (intro q; first | rfl | (rcases q with q | q; (cases q); (exact absurd q (by assumption))))) | exact any_next hf1 hi0.1 (by constructor; (intro q; first | exact .inl rfl | exact .inr (by assumption) | cases q); (intro q; first | rfl | (rcases q with q | q; (cases q); (exact absurd q (by assumption)))))), rfl⟩
     ·subst h4
      by_cases h7 : (at_ v_1 i.toNat) = ((gapR v_1).1)
      ·refine aw_reg [(7, .dec true)] [3, 4, 14, 15, 16] [] [slI true v_1, I ((gapR v_1).1), Bv true, Bv wide, I i] [] [(0 : Int) ≤ i ∧ i < (v_1.length : Int), (at_ v_1 i.toNat) = ((gapR v_1).1)] (by kernel_rfl) hB ⟨⟨(by omega), (by omega)⟩, h7, trivial⟩ ?_
       refine ae_then ?_
       rcases Bool.eq_false_or_eq_true wide with h8 | h8
       ·subst h8
        refine aw_reg [] [3, 4, 14, 15, 16] [] [slI true v_1, I ((gapR v_1).1), Bv true, Bv true, I i] [] [] (by kernel_rfl) hB trivial ?_
        refine ae_block 1 ?_
        refine ae_then ?_
        refine aw_reg [] [3, 4, 14, 15, 16] [] [slI true v_1, I ((gapR v_1).1), Bv true, Bv true, I (i + 1)] [] [inR .i64 (i + 1)] (by kernel_rfl) hB ⟨(inR_i64 (by omega) (by omega)), trivial⟩ ?_
        exact ae_again _ (by omega) ⟨true, true, (i + 1), rfl, (by omega), (by first | exact any_next hf0 hi0.1 (by constructor; (intro q; first | exact .inl rfl | exact .inr (by assumption) | cases q); (intro q; first | rfl | (rcases q with q | q; (cases q); (exact absurd q (by assumption))))) | exact any_next hf1 hi0.1 (by constructor; (intro q; first | exact .inl rfl | exact .inr (by assumption) | cases q); (intro q; first | rfl | (rcases q with q | q; (cases q); (exact absurd q (by assumption)))))), (by first | exact any_next hf0 hi0.1 (by constructor; (intro q; first | exact .inl rfl | exact .inr (by assumption) | cases q); (intro q; first | rfl | (rcases q with q | q; (cases q); (exact absurd q (by assumption))))) | exact any_next hf1 hi0.1 (by constructor; (intro q; first | exact .inl rfl | exact .inr (by assumption) | cases q); (intro q; first | rfl | (rcases q with q | q; (cases q); (exact absurd q (by assumption)))))), rfl⟩
       ·subst h8
        by_cases h9 : ((gapR v_1).1) < (at_ v_1 i.toNat)
        ·refine aw_reg [(7, .dec true)] [3, 4, 14, 15, 16] [] [slI true v_1, I ((gapR v_1).1), Bv true, Bv true, I i] [] [(0 : Int) ≤ i ∧ i < (v_1.length : Int), ((gapR v_1).1) < (at_ v_1 i.toNat)] (by kernel_rfl) hB ⟨⟨(by omega), (by omega)⟩, h9, trivial⟩ ?_
         refine ae_block 1 ?_
         refine ae_then ?_
         refine aw_reg [] [3, 4, 14, 15, 16] [] [slI true v_1, I ((gapR v_1).1), Bv true, Bv true, I (i + 1)] [] [inR .i64 (i + 1)] (by kernel_rfl) hB ⟨(inR_i64 (by omega) (by omega)), trivial⟩ ?_
         exact ae_again _ (by omega) ⟨true, true, (i + 1), rfl, (by omega), (by first | exact any_next hf0 hi0.1 (by constructor; (intro q; first | exact .inl rfl | exact .inr (by assumption) | cases q); (intro q; first | rfl | (rcases q with q | q; (cases q); (exact absurd q (by assumption))))) | exact any_next hf1 hi0.1 (by constructor; (intro q; first | exact .inl rfl | exact .inr (by assumption) | cases q); (intro q; first | rfl | (rcases q with q | q; (cases q); (exact absurd q (by assumption)))))), (by first | exact any_next hf0 hi0.1 (by constructor; (intro q; first | exact .inl rfl | exact .inr (by assumption) | cases q); (intro q; first | rfl | (rcases q with q | q; (cases q); (exact absurd q (by assumption))))) | exact any_next hf1 hi0.1 (by constructor; (intro q; first | exact .inl rfl | exact .inr (by assumption) | cases q); (intro q; first | rfl | (rcases q with q | q; (cases q); (exact absurd q (by assumption)))))), rfl⟩
        ·refine aw_reg [(7, .dec false)] [3, 4, 14, 15, 16] [] [slI true v_1, I ((gapR v_1).1), Bv true, Bv false, I i] [] [(0 : Int) ≤ i ∧ i < (v_1.length : Int), ¬ (((gapR v_1).1) < (at_ v_1 i.toNat))] (by kernel_rfl) hB ⟨⟨(by omega), (by omega)⟩, h9, trivial⟩ ?_
         refine ae_block 1 ?_
         refine ae_then ?_
         refine aw_reg [] [3, 4, 14, 15, 16] [] [slI true v_1, I ((gapR v_1).1), Bv true, Bv false, I (i + 1)] [] [inR .i64 (i + 1)] (by kernel_rfl) hB ⟨(inR_i64 (by omega) (by omega)), trivial⟩ ?_
         exact ae_again _ (by omega) ⟨true, false, (i + 1), rfl, (by omega), (by first | exact any_next hf0 hi0.1 (by constructor; (intro q; first | exact .inl rfl | exact .inr (by assumption) | cases q); (intro q; first | rfl | (rcases q with q | q; (cases q); (exact absurd q (by assumption))))) | exact any_next hf1 hi0.1 (by constructor; (intro q; first | exact .inl rfl | exact .inr (by assumption) | cases q); (intro q; first | rfl | (rcases q with q | q; (cases q); (exact absurd q (by assumption)))))), (by first | exact any_next hf0 hi0.1 (by constructor; (intro q; first | exact .inl rfl | exact .inr (by assumption) | cases q); (intro q; first | rfl | (rcases q with q | q; (cases q); (exact absurd q (by assumption))))) | exact any_next hf1 hi0.1 (by constructor; (intro q; first | exact .inl rfl | exact .inr (by assumption) | cases q); (intro q; first | rfl | (rcases q with q | q; (cases q); (exact absurd q (by assumption)))))), rfl⟩
      ·refine aw_reg [(7, .dec false)] [3, 4, 14, 15, 16] [] [slI true v_1, I ((gapR v_1).1), Bv false, Bv wide, I i] [] [(0 : Int) ≤ i ∧ i < (v_1.length : Int), ¬ ((at_ v_1 i.toNat) = ((gapR v_1).1))] (by kernel_rfl) hB ⟨⟨(by omega), (by omega)⟩, h7, trivial⟩ ?_
       refine ae_then ?_
       rcases Bool.eq_false_or_eq_true wide with h10 | h10
       ·subst h10
        refine aw_reg [] [3, 4, 14, 15, 16] [] [slI true v_1, I ((gapR v_1).1), Bv false, Bv true, I i] [] [] (by kernel_rfl) hB trivial ?_
        refine ae_block 1 ?_
        refine ae_then ?_
        refine aw_reg [] [3, 4, 14, 15, 16] [] [slI true v_1, I ((gapR v_1).1), Bv false, Bv true, I (i + 1)] [] [inR .i64 (i + 1)] (by kernel_rfl) hB ⟨(inR_i64 (by omega) (by omega)), trivial⟩ ?_
        exact ae_again _ (by omega) ⟨false, true, (i + 1), rfl, (by omega), (by first | exact any_next hf0 hi0.1 (by constructor; (intro q; first | exact .inl rfl | exact .inr (by assumption) | cases q); (intro q; first | rfl | (rcases q with q | q; (cases q); (exact absurd q (by assumption))))) | exact any_next hf1 hi0.1 (by constructor; (intro q; first | exact .inl rfl | exact .inr (by assumption) | cases q); (intro q; first | rfl | (rcases q with q | q; (cases q); (exact absurd q (by assumption)))))), (by first | exact any_next hf0 hi0.1 (by constructor; (intro q; first | exact .inl rfl | exact .inr (by assumption) | cases q); (intro q; first | rfl | (rcases q with q | q; (cases q); (exact absurd q (by assumption))))) | exact any_next hf1 hi0.1 (by constructor; (intro q; first | exact .inl rfl | exact .inr (by assumption) | cases q); (intro q; first | rfl | (rcases q with q | q; (cases q); (exact absurd q (by assumption)))))), rfl⟩
       ·subst h10
        by_cases h11 : ((gapR v_1).1) < (at_ v_1 i.toNat)
        ·refine aw_reg [(7, .dec true)] [3, 4, 14, 15, 16] [] [slI true v_1, I ((gapR v_1).1), Bv false, Bv true, I i] [] [(0 : Int) ≤ i ∧ i < (v_1.length : Int), ((gapR v_1).1) < (at_ v_1 i.toNat)] (by kernel_rfl) hB ⟨⟨(by omega), (by omega)⟩, h11, trivial⟩ ?_
         refine ae_block 1 ?_
         refine ae_then ?_
         refine aw_reg [] [3, 4, 14, 15, 16] [] [slI true v_1, I ((gapR v_1).1), Bv false, Bv true, I (i + 1)] [] [inR .i64 (i + 1)] (by kernel_rfl) hB ⟨(inR_i64 (by omega) (by omega)), trivial⟩ ?_
         exact ae_again _ (by omega) ⟨false, true, (i + 1), rfl, (by omega), (by first | exact any_next hf0 hi0.1 (by constructor; (intro q; first | exact .inl rfl | exact .inr (by assumption) | cases q); (intro q; first | rfl | (rcases q with q | q; (cases q); (exact absurd q (by assumption))))) | exact any_next hf1 hi0.1 (by constructor; (intro q; first | exact .inl rfl | exact .inr (by assumption) | cases q); (intro q; first | rfl | (rcases q with q | q; (cases q); (exact absurd q (by assumption)))))), (by first | exact any_next hf0 hi0.1 (by constructor; (intro q; first | exact .inl rfl | exact .inr (by assumption) | cases q); (intro q; first | rfl | (rcases q with q | q; (cases q); (exact absurd q (by assumption))))) | exact any_next hf1 hi0.1 (by constructor; (intro q; first | exact .inl rfl | exact .inr (by assumption) | cases q); (intro q; first | rfl | (rcases q with q | q; (cases q); (exact absurd q (by assumption)))))), rfl⟩
        ·refine aw_reg [(7, .dec false)] [3, 4, 14, 15, 16] [] [slI true v_1, I ((gapR v_1).1), Bv false, Bv false, I i] [] [(0 : Int) ≤ i ∧ i < (v_1.length : Int), ¬ (((gapR v_1).1) < (at_ v_1 i.toNat))] (by kernel_rfl) hB ⟨⟨(by omega), (by omega)⟩, h11, trivial⟩ ?_
         refine ae_block 1 ?_
         refine ae_then ?_
         refine aw_reg [] [3, 4, 14, 15, 16] [] [slI true v_1, I ((gapR v_1).1), Bv false, Bv false, I (i + 1)] [] [inR .i64 (i + 1)] (by kernel_rfl) hB ⟨(inR_i64 (by omega) (by omega)), trivial⟩ ?_
         exact ae_again _ (by omega) ⟨false, false, (i + 1), rfl, (by omega), (by first | exact any_next hf0 hi0.1 (by constructor; (intro q; first | exact .inl rfl | exact .inr (by assumption) | cases q); (intro q; first | rfl | (rcases q with q | q; (cases q); (exact absurd q (by assumption))))) | exact any_next hf1 hi0.1 (by constructor; (intro q; first | exact .inl rfl | exact .inr (by assumption) | cases q); (intro q; first | rfl | (rcases q with q | q; (cases q); (exact absurd q (by assumption)))))), (by first | exact any_next hf0 hi0.1 (by constructor; (intro q; first | exact .inl rfl | exact .inr (by assumption) | cases q); (intro q; first | rfl | (rcases q with q | q; (cases q); (exact absurd q (by assumption))))) | exact any_next hf1 hi0.1 (by constructor; (intro q; first | exact .inl rfl | exact .inr (by assumption) | cases q); (intro q; first | rfl | (rcases q with q | q; (cases q); (exact absurd q (by assumption)))))), rfl⟩
    ·have hie : i.toNat = v_1.length := by omega
     rw [hie] at hf0 hf1
     refine aw_reg [(3, .dec false)] [3, 4, 14, 15, 16, 71] [] [slI true v_1, I ((gapR v_1).1), Bv found, Bv wide, I i, Bv false] [] [¬ (i < (v_1.length : Int))] (by kernel_rfl) hB ⟨h3, trivial⟩ ?_
     refine ae_then ?_
     refine aw_false rfl ?_
     refine aw_exit ?_
     refine ae_exit_then ?_
     refine ae_exit_then ?_
     refine ae_exit_same ?_
     refine ae_then ?_
     refine aw_seq ?_
     rcases Bool.eq_false_or_eq_true found with h12 | h12
     ·subst h12
      refine aw_reg [] [2] [] [Bv wide] [] [] (by kernel_rfl) hB trivial ?_
      refine ae_then ?_
      refine aw_ret ?_
      refine ae_ret hB (Bv wide) (by kernel_rfl) (.inl (by first | rfl | (refine congrArg Bv ?_; simp_all))) rfl (fun _ => trivial)
     ·subst h12
      refine aw_reg [] [2] [] [Bv false] [] [] (by kernel_rfl) hB trivial ?_
      refine ae_then ?_
      refine aw_ret ?_
      refine ae_ret hB (Bv false) (by kernel_rfl) (.inl (by first | rfl | (refine congrArg Bv ?_; simp_all))) rfl (fun _ => trivial)
   ·refine aw_reg [(1, .dec true)] [3, 4, 67] [] [slI true v_1, I ((gapR v_1).1), Bv true] [] [((gapR v_1).2) ≠ 0] (by kernel_rfl) hB ⟨h2, trivial⟩ ?_
    refine ae_then ?_
    refine aw_true rfl ?_
    refine aw_seq ?_
    refine aw_reg [] [2] [] [Bv true] [] [] (by kernel_rfl) hB trivial ?_
    refine ae_then ?_
    refine aw_ret ?_
    refine ae_ret_then ?_
    refine ae_ret hB (Bv true) (by kernel_rfl) (.inl rfl) rfl (fun _ => trivial)


/-! ### the row -/

theorem opens_t22 : OpensA Try.prog 22 (cLU8 false) (fun xs => ∀ y ∈ xs, inR .u8 y) :=
  opensA_slice (c := cU8) (sz := 1) Try.underlying22 (by kernel_rfl) (by decide) (fun x => ⟨rfl, by simp [oneA, cU8]⟩) (opensA_int Try.underlying5)

namespace fnGapLimits
set_option maxRecDepth 100000 in
theorem lifted (os : Os) (started : os.Started) (H : Type) (enc : TypeId × Value → H) :
    ReturnsInHanded {} Try.checked os 5 .any (Rows.fnGapLimitsSpec.pre6 enc Try.prog Try.f5 Rows.fnGapLimitsRow.domain false) (Rows.fnGapLimitsSpec.post enc Try.prog Try.f5 false true false false) := by
  refine returnsInHanded_of_change_shaped (C := Try.checked) Try.own started (by kernel_rfl) Try.func5
    (ChangeSpec.witness6 (enc := enc) (C := Try.checked) false ⟨#[], #[.slice none 0 0], []⟩ 8 (by kernel_rfl) (by kernel_rfl) (by kernel_rfl) (by kernel_rfl)) ?_
  intro W base args ds gs before hval0 hW hcnd hsz hshp _
  have hW' := hW
  obtain ⟨p, q, hA0, hV, rfl, hfz, hnd⟩ := hW
  have hval : ∀ (j : Nat) t v, Try.f5.params[j]? = some t → args[j]? = some v → Value.okWide Try.prog W .any base t v := hval0
  have hA : DataW.TrodAll enc Try.prog W 0 (fun _ => true) true Try.f5.params.toList args.toList ds p := hA0
  rw [Try.params5] at hA hval
  obtain ⟨v0, vs0, d0, ds0, p0, q0, hargs, rfl, rfl, h0, r0⟩ := trodAll_cons hA
  obtain ⟨rfl, rfl, rfl⟩ := trodAll_nil r0
  obtain rfl : args = #[v0] := args_eq hargs
  obtain ⟨rfl, rfl⟩ := trodVars_none hV
  obtain ⟨fuel0, hf0⟩ := h0
  obtain ⟨A0, l0, c0, rfl⟩ := okWide_slice Try.underlying22 (hval 0 22 v0 rfl rfl)
  obtain ⟨x0, rx0, ok0⟩ := (opens_t22) enc W 0 _ _ _ _ _ hf0
  refine (walk_of0 (fnGapLimits_con x0 ok0) (fun w _ => WX_free w) (RelTL.cons (relTL_one rx0) RelTL.nil)).mono fun e W1 ⟨he, hb⟩ => ?_
  subst he
  exact ⟨_, rfl, law_post Try.laidOut rfl Try.underlying4 (of_decide_eq_true (by kernel_rfl)) rfl hW' hb rfl⟩

theorem over : Rows.fnGapLimitsRow.holds Try.pinned (OpenSpec.ofChange Rows.fnGapLimitsSpec) :=
  OpenClaim.holds_of_wide 5 Try.f5 rfl rfl rfl rfl rfl rfl rfl ⟨rfl, rfl, rfl, rfl, rfl⟩ rfl rfl rfl rfl rfl (by kernel_rfl) Try.func5 (by kernel_rfl)
    (of_decide_eq_true (by kernel_rfl)) (by unfold Func.isWrapper; first | (rw [if_pos (by decide +kernel)]; kernel_rfl) | (rw [if_neg (by decide +kernel)]; exact ⟨rfl, rfl⟩))
    (fun os started H enc _ => lifted os started H enc)

theorem proved : Rows.FnGapLimitsSaid :=
  over
#print axioms proved
end fnGapLimits
end Go.Proofs.Ytoifonocjfhinaa.Ax
