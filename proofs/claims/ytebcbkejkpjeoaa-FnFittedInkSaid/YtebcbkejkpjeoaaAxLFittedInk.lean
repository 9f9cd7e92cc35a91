/- The statement FnFittedInk: contracts of what it reaches, and its proof. No conditions. -/
import Derived.Test.YtebcbkejkpjeoaaAxLFittedInk2
import Derived.Test.YtebcbkejkpjeoaaAxS
import Derived.Test.YtebcbkejkpjeoaaSortShelf
namespace Go.Proofs.Ytebcbkejkpjeoaa.Ax
open Go.RowKit Go.ChangeShapes Go.WideShapes
set_option linter.unusedVariables false
set_option linter.unusedSimpArgs false


-- impl.BaseLineOf
-- impl.overBoxes at a closure
theorem over_BaseLineOf (ik : Ink) : ∃ (v : Int) (c : Int), (v = (ovR (fun b => b.Y2) ik).1) ∧ (c = (ovR (fun b => b.Y2) ik).2) ∧ Con Try.prog 107 [.agg [slStroke false ik.Strokes], .fn 108 []] true (.tup [I v, I c]) := by
  have hh : ∃ r : Int × Int, ((r.1 = (ovR (fun b => b.Y2) ik).1) ∧ (r.2 = (ovR (fun b => b.Y2) ik).2) ∧ (True)) ∧ CallOK Try.prog 107 [.agg [slStroke false ik.Strokes], .fn 108 []] (lookO []) true (.tup [I r.1, I r.2]) (lookO []) := by
    refine fn_okX (Φ := fun r : Int × Int => (r.1 = (ovR (fun b => b.Y2) ik).1) ∧ (r.2 = (ovR (fun b => b.Y2) ik).2) ∧ (True)) [] (fun r => []) (fn := Try.f107) (nt := 33) Try.func107 rfl rfl (args := [.agg [slStroke false ik.Strokes], .fn 108 []]) rfl (allcons (.inl ⟨rfl, by simp [tagged, taggedL, tagStroke]⟩) (allcons (.inl ⟨rfl, trivial⟩) allnil)) (res := fun r => .tup [I r.1, I r.2]) ?_
    refine x_seq ?_
    refine x_reg [(0, .new 2)] [1, 2] [2] [.fn 108 [], .ref 2 0] [some (.box [slStroke false ik.Strokes])] [] (by kernel_rfl) trivial ?_
    refine xe_then ?_
    refine x_seq ?_
    refine x_seq ?_
    rcases Bool.eq_false_or_eq_true (okInk' ik) with h1 | h1
    ·have hil := okI_len h1
     refine x_reg [(1, .call [(true, .agg [slStroke false ik.Strokes])] true (Bv true))] [1, 2, 11] [2] [.fn 108 [], .ref 2 0, Bv false] [some (.box [slStroke false ik.Strokes])] [Con Try.prog 52 [.agg [slStroke false ik.Strokes]] true (Bv true) ∧ ((.agg [slStroke false ik.Strokes] : AV) = .agg [slStroke false ik.Strokes]) ∧ True] (by kernel_rfl) ⟨⟨(con_bool h1 (ValidInk_ok ik)), rfl, trivial⟩, trivial⟩ ?_
     refine xe_then ?_
     refine x_false rfl ?_
     refine x_skip ?_
     refine xe_then ?_
     refine x_seq ?_
     refine x_seq ?_
     by_cases h2 : (ik.Strokes.length : Int) = 0
     ·have hst := ovR_st (f := fun b => b.Y2) h1 h2
      refine x_reg [(3, .dec true)] [1, 2, 15] [2] [.fn 108 [], .ref 2 0, Bv true] [some (.box [slStroke false ik.Strokes])] [(ik.Strokes.length : Int) = 0] (by kernel_rfl) ⟨h2, trivial⟩ ?_
      refine xe_then ?_
      refine x_true rfl ?_
      refine x_seq ?_
      refine x_reg [] [4, 5] [] [I 0, I 6] [] [] (by kernel_rfl) trivial ?_
      refine xe_then ?_
      refine x_ret ?_
      refine xe_ret_then ?_
      refine xe_end (0, 6) (show (0 = (ovR (fun b => b.Y2) ik).1) ∧ (6 = (ovR (fun b => b.Y2) ik).2) ∧ (True) from ⟨(by first | (rw [hst]; done) | (rw [hst, hx1_0, hfin]; done) | (rw [hst, hfin] at *; assumption)), (by first | (rw [hst]; done) | (rw [hst, hx1_0, hfin]; done) | (rw [hst, hfin] at *; assumption)), trivial⟩) (trivial) (.tup [I 0, I 6]) (by kernel_rfl) (.inl rfl) (fun _ => rfl) (fun _ => (by simp [tagged, taggedL]))
     ·have hst := ovR_yes (f := fun b => b.Y2) h1 h2
      refine x_reg [(3, .dec false)] [1, 2, 15] [2] [.fn 108 [], .ref 2 0, Bv false] [some (.box [slStroke false ik.Strokes])] [¬ ((ik.Strokes.length : Int) = 0)] (by kernel_rfl) ⟨h2, trivial⟩ ?_
      refine xe_then ?_
      refine x_false rfl ?_
      refine x_skip ?_
      refine xe_then ?_
      refine x_seq ?_
      refine x_reg [] [1, 2, 6] [2] [.fn 108 [], .ref 2 0, nilA] [some (.box [slStroke false ik.Strokes])] [] (by kernel_rfl) trivial ?_
      refine xe_then ?_
      refine x_seq ?_
      refine x_seq ?_
      refine x_reg [] [1, 6, 17, 18, 19] [] [.fn 108 [], nilA, slStroke false ik.Strokes, I (ik.Strokes.length : Int), I 0] [] [] (by kernel_rfl) trivial ?_
      refine xe_then ?_
      refine x_block ?_
      refine x_nil 6 706 1 (fun _ => []) (by kernel_rfl) ?_
      refine x_weak [] (T := [(1, .fn 108 []), (6, .arr 706), (17, slStroke false ik.Strokes), (18, I (ik.Strokes.length : Int)), (19, I 0)]) (O := [(706, .arr 1 (([] : List Int).length) (fI ([] : List Int)))]) rfl (⟨.inl rfl, .inl rfl, .inl rfl, .inl rfl, .inl rfl, trivial⟩) (⟨.inr ⟨rfl, (by first | rfl | (simp; done) | (simp; omega) | omega), fun i_ hi_ => absurd hi_ (Nat.not_lt_zero _)⟩, trivial⟩) ?_
      refine x_loop (X := (List Int) × Int) (fun x => mkS [(1, .fn 108 []), (6, .arr 706), (17, slStroke false ik.Strokes), (18, I (ik.Strokes.length : Int)), (19, I x.2)] [(706, .arr 1 x.1.length (fI x.1))]) (fun x => (0 ≤ x.2 ∧ x.2 ≤ (ik.Strokes.length : Int)) ∧ ((x.1.length : Int) = x.2) ∧ (x.1 = (ik.Strokes.take x.2.toNat).map (fun s => (fun b => b.Y2) (strB s))) ∧ True) (fun x => ((ik.Strokes.length : Int) - x.2).toNat) (([] : List Int), 0) rfl (show (0 ≤ (0 : Int) ∧ (0 : Int) ≤ (ik.Strokes.length : Int)) ∧ ((([] : List Int).length : Int) = (0 : Int)) ∧ (([] : List Int) = (ik.Strokes.take (0 : Int).toNat).map (fun s => (fun b => b.Y2) (strB s))) ∧ True from ⟨(by omega), (by rfl), (by rfl), trivial⟩) (fun x hI => ?_)
      obtain ⟨list, t19⟩ := x
      obtain ⟨hi0, hl0, hs0, _⟩ : (0 ≤ t19 ∧ t19 ≤ (ik.Strokes.length : Int)) ∧ ((list.length : Int) = t19) ∧ (list = (ik.Strokes.take t19.toNat).map (fun s => (fun b => b.Y2) (strB s))) ∧ True := hI
      show XW _ _ _ _ (mkS [(1, .fn 108 []), (6, .arr 706), (17, slStroke false ik.Strokes), (18, I (ik.Strokes.length : Int)), (19, I t19)] [(706, .arr 1 list.length (fI list))]) _ _
      refine x_seq ?_
      by_cases h3 : t19 < (ik.Strokes.length : Int)
      ·have hi : t19.toNat < ik.Strokes.length := by omega
       have hos := okI_all h1 _ hi
       have hbx := boxS_all hos
       unfold okBox at hbx
       refine x_reg [(0, .dec true)] [1, 6, 17, 18, 19, 20] [706] [.fn 108 [], .arr 706, slStroke false ik.Strokes, I (ik.Strokes.length : Int), I t19, Bv true] [some (.arr 1 list.length (fI list))] [t19 < (ik.Strokes.length : Int)] (by kernel_rfl) ⟨h3, trivial⟩ ?_
       refine xe_then ?_
       refine x_seq ?_
       refine x_true rfl ?_
       refine x_skip ?_
       refine xe_then ?_
       refine x_seq ?_
       refine x_block ?_
       refine x_seq ?_
       refine x_reg [(2, .new 8)] [1, 6, 8, 17, 18, 19] [8, 706] [.fn 108 [], .arr 706, .ref 8 0, slStroke false ik.Strokes, I (ik.Strokes.length : Int), I t19] [some (.box [slPoint false ((at_ ik.Strokes t19.toNat).Points)]), some (.arr 1 list.length (fI list))] [(0 : Int) ≤ t19 ∧ t19 < (ik.Strokes.length : Int)] (by kernel_rfl) ⟨⟨(by omega), (by omega)⟩, trivial⟩ ?_
       refine xe_then ?_
       refine x_reg [(3, .call [(true, .agg [slPoint false ((at_ ik.Strokes t19.toNat).Points)])] true (agBox (boxS (at_ ik.Strokes t19.toNat).Points (at_ ik.Strokes t19.toNat).Points.length))), (4, .call [(true, agBox (boxS (at_ ik.Strokes t19.toNat).Points (at_ ik.Strokes t19.toNat).Points.length))] true (I ((boxS (at_ ik.Strokes t19.toNat).Points (at_ ik.Strokes t19.toNat).Points.length).Y2))), (5, .new 28), (6, .new 29)] [1, 6, 17, 18, 19] [29] [.fn 108 [], .arr 29, slStroke false ik.Strokes, I (ik.Strokes.length : Int), I t19] [some (.arr 1 (list.length + 1) (catF list.length (fI list) (litF [I ((boxS (at_ ik.Strokes t19.toNat).Points (at_ ik.Strokes t19.toNat).Points.length).Y2)] 1)))] [Con Try.prog 120 [.agg [slPoint false ((at_ ik.Strokes t19.toNat).Points)]] true (agBox (boxS (at_ ik.Strokes t19.toNat).Points (at_ ik.Strokes t19.toNat).Points.length)) ∧ ((.agg [slPoint false ((at_ ik.Strokes t19.toNat).Points)] : AV) = .agg [slPoint false ((at_ ik.Strokes t19.toNat).Points)]) ∧ True, Con Try.prog 108 [agBox (boxS (at_ ik.Strokes t19.toNat).Points (at_ ik.Strokes t19.toNat).Points.length)] true (I ((boxS (at_ ik.Strokes t19.toNat).Points (at_ ik.Strokes t19.toNat).Points.length).Y2)) ∧ ((agBox (boxS (at_ ik.Strokes t19.toNat).Points (at_ ik.Strokes t19.toNat).Points.length) : AV) = agBox (boxS (at_ ik.Strokes t19.toNat).Points (at_ ik.Strokes t19.toNat).Points.length)) ∧ True, (list.length + 1) * 8 ≤ 140737488355328] (by kernel_rfl) ⟨⟨(boxOfStroke_ok (at_ ik.Strokes t19.toNat) hos), rfl, trivial⟩, ⟨(BaseLineOf1_ok (boxS (at_ ik.Strokes t19.toNat).Points (at_ ik.Strokes t19.toNat).Points.length) (by omega)), rfl, trivial⟩, (by omega), trivial⟩ ?_
       refine xe_block 1 ?_
       refine xe_then ?_
       refine x_reg [] [1, 6, 17, 18, 19] [29] [.fn 108 [], .arr 29, slStroke false ik.Strokes, I (ik.Strokes.length : Int), I (t19 + 1)] [some (.arr 1 (list.length + 1) (catF list.length (fI list) (litF [I ((boxS (at_ ik.Strokes t19.toNat).Points (at_ ik.Strokes t19.toNat).Points.length).Y2)] 1)))] [inR .i64 (t19 + 1)] (by kernel_rfl) ⟨(inR_i64 (by omega) (by omega)), trivial⟩ ?_
       refine xe_weak [(706, 29)] (T := [(1, .fn 108 []), (6, .arr 706), (17, slStroke false ik.Strokes), (18, I (ik.Strokes.length : Int)), (19, I (t19 + 1))]) (O := [(706, .arr 1 ((list ++ [(boxS (at_ ik.Strokes t19.toNat).Points (at_ ik.Strokes t19.toNat).Points.length).Y2]).length) (fI (list ++ [(boxS (at_ ik.Strokes t19.toNat).Points (at_ ik.Strokes t19.toNat).Points.length).Y2])))]) rfl (⟨.inl rfl, .inl rfl, .inl rfl, .inl rfl, .inl rfl, trivial⟩) (⟨.inr ⟨rfl, (by first | rfl | (simp; done) | (simp; omega) | omega), fun i_ hi_ => .inl (cat_snoc (enc := cI) (xs := list) rfl i_ hi_)⟩, trivial⟩) (xe_again ((list ++ [(boxS (at_ ik.Strokes t19.toNat).Points (at_ ik.Strokes t19.toNat).Points.length).Y2]), (t19 + 1)) rfl (show (0 ≤ (t19 + 1) ∧ (t19 + 1) ≤ (ik.Strokes.length : Int)) ∧ (((list ++ [(boxS (at_ ik.Strokes t19.toNat).Points (at_ ik.Strokes t19.toNat).Points.length).Y2]).length : Int) = (t19 + 1)) ∧ ((list ++ [(boxS (at_ ik.Strokes t19.toNat).Points (at_ ik.Strokes t19.toNat).Points.length).Y2]) = (ik.Strokes.take (t19 + 1).toNat).map (fun s => (fun b => b.Y2) (strB s))) ∧ True from ⟨(by omega), (by simp; omega), (by rw [hs0]; exact (mapTake_succ (by omega) hi rfl).symm), trivial⟩) (by show (((ik.Strokes.length : Int) - (t19 + 1)).toNat : Nat) < ((ik.Strokes.length : Int) - t19).toNat; omega))
      ·have hfin : list = ik.Strokes.map (fun s => (fun b => b.Y2) (strB s)) := by rw [hs0]; exact map_all (by omega)
       refine x_reg [(0, .dec false)] [1, 6, 17, 18, 19, 20] [706] [.fn 108 [], .arr 706, slStroke false ik.Strokes, I (ik.Strokes.length : Int), I t19, Bv false] [some (.arr 1 list.length (fI list))] [¬ (t19 < (ik.Strokes.length : Int))] (by kernel_rfl) ⟨h3, trivial⟩ ?_
       refine xe_then ?_
       refine x_seq ?_
       refine x_false rfl ?_
       refine x_exit ?_
       refine xe_exit_then ?_
       refine xe_loop_exit ?_
       refine xe_exit_same ?_
       refine xe_then ?_
       refine x_seq ?_
       refine x_weak [(7201, 706)] (T := [(1, .fn 108 []), (6, .arr 7201), (17, slStroke false ik.Strokes), (18, I (ik.Strokes.length : Int)), (19, I t19), (20, Bv false)]) (O := [(7201, .arr 1 list.length (fI list))]) rfl (⟨.inl rfl, .inl rfl, .inl rfl, .inl rfl, .inl rfl, .inl rfl, trivial⟩) (⟨.inl rfl, trivial⟩) ?_
       obtain ⟨v_1, list'_1, hx1_0, hc1⟩ := medianOf_ok list (by omega)
       refine x_reg [(1, .lend [(7201, .arr 1 list.length (fI list), .arr 1 list'_1.length (fI list'_1))] [] [(true, .arr 7201)] true (I v_1))] [4, 5] [] [I v_1, I 0] [] [CallOK Try.prog 167 [.arr 7201] (lookO [(7201, .arr 1 list.length (fI list))]) true (I v_1) (lookO [(7201, .arr 1 list'_1.length (fI list'_1))]) ∧ ((.arr 7201 : AV) = .arr 7201) ∧ (((.arr 1 list.length (fI list) : Ob) = .arr 1 list.length (fI list) ∨ obLe noOb true (.arr 1 list.length (fI list)) (.arr 1 list.length (fI list))) ∧ taggedO false (.arr 1 list.length (fI list))) ∧ True] (by kernel_rfl) ⟨⟨hc1, rfl, ⟨.inl rfl, fun _ _ => tagcI false _⟩, trivial⟩, trivial⟩ ?_
       refine xe_then ?_
       refine x_ret ?_
       refine xe_end (v_1, 0) (show (v_1 = (ovR (fun b => b.Y2) ik).1) ∧ (0 = (ovR (fun b => b.Y2) ik).2) ∧ (True) from ⟨(by first | (rw [hst]; done) | (rw [hst, hx1_0, hfin]; done) | (rw [hst, hfin] at *; assumption)), (by first | (rw [hst]; done) | (rw [hst, hx1_0, hfin]; done) | (rw [hst, hfin] at *; assumption)), trivial⟩) (trivial) (.tup [I v_1, I 0]) (by kernel_rfl) (.inl rfl) (fun _ => rfl) (fun _ => (by simp [tagged, taggedL]))
    ·have hst := ovR_inv (f := fun b => b.Y2) h1
     refine x_reg [(1, .call [(true, .agg [slStroke false ik.Strokes])] true (Bv false))] [1, 2, 11] [2] [.fn 108 [], .ref 2 0, Bv true] [some (.box [slStroke false ik.Strokes])] [Con Try.prog 52 [.agg [slStroke false ik.Strokes]] true (Bv false) ∧ ((.agg [slStroke false ik.Strokes] : AV) = .agg [slStroke false ik.Strokes]) ∧ True] (by kernel_rfl) ⟨⟨(con_bool h1 (ValidInk_ok ik)), rfl, trivial⟩, trivial⟩ ?_
     refine xe_then ?_
     refine x_true rfl ?_
     refine x_seq ?_
     refine x_reg [] [4, 5] [] [I 0, I 1] [] [] (by kernel_rfl) trivial ?_
     refine xe_then ?_
     refine x_ret ?_
     refine xe_ret_then ?_
     refine xe_end (0, 1) (show (0 = (ovR (fun b => b.Y2) ik).1) ∧ (1 = (ovR (fun b => b.Y2) ik).2) ∧ (True) from ⟨(by first | (rw [hst]; done) | (rw [hst, hx1_0, hfin]; done) | (rw [hst, hfin] at *; assumption)), (by first | (rw [hst]; done) | (rw [hst, hx1_0, hfin]; done) | (rw [hst, hfin] at *; assumption)), trivial⟩) (trivial) (.tup [I 0, I 1]) (by kernel_rfl) (.inl rfl) (fun _ => rfl) (fun _ => (by simp [tagged, taggedL]))
  obtain ⟨⟨v, c⟩, ⟨hh0, hh1, _⟩, hc⟩ := hh
  exact ⟨v, c, hh0, hh1, hc⟩

theorem implBaseLineOf_ok (ik : Ink) : ∃ (v : Int) (c : Int), (v = (ovR (fun b => b.Y2) ik).1) ∧ (c = (ovR (fun b => b.Y2) ik).2) ∧ Con Try.prog 41 [.agg [slStroke false ik.Strokes]] true (.tup [I v, I c]) := by
  have hh : ∃ r : Int × Int, ((r.1 = (ovR (fun b => b.Y2) ik).1) ∧ (r.2 = (ovR (fun b => b.Y2) ik).2) ∧ (True)) ∧ CallOK Try.prog 41 [.agg [slStroke false ik.Strokes]] (lookO []) true (.tup [I r.1, I r.2]) (lookO []) := by
    refine fn_okX (Φ := fun r : Int × Int => (r.1 = (ovR (fun b => b.Y2) ik).1) ∧ (r.2 = (ovR (fun b => b.Y2) ik).2) ∧ (True)) [] (fun r => []) (fn := Try.f41) (nt := 8) Try.func41 rfl rfl (args := [.agg [slStroke false ik.Strokes]]) rfl (allcons (.inl ⟨rfl, by simp [tagged, taggedL, tagStroke]⟩) allnil) (res := fun r => .tup [I r.1, I r.2]) ?_
    refine x_seq ?_
    refine x_reg [(0, .new 1)] [1] [1] [.ref 1 0] [some (.box [slStroke false ik.Strokes])] [] (by kernel_rfl) trivial ?_
    refine xe_then ?_
    refine x_seq ?_
    obtain ⟨v_1, c_1, hx1_0, hx1_1, hc1⟩ := over_BaseLineOf ik
    refine x_reg [(1, .call [(true, .agg [slStroke false ik.Strokes]), (true, .fn 108 [])] true (.tup [I v_1, I c_1]))] [2, 3] [] [I v_1, I c_1] [] [Con Try.prog 107 [.agg [slStroke false ik.Strokes], .fn 108 []] true (.tup [I v_1, I c_1]) ∧ ((.agg [slStroke false ik.Strokes] : AV) = .agg [slStroke false ik.Strokes]) ∧ ((.fn 108 [] : AV) = .fn 108 []) ∧ True] (by kernel_rfl) ⟨⟨hc1, rfl, rfl, trivial⟩, trivial⟩ ?_
    refine xe_then ?_
    refine x_ret ?_
    refine xe_end (v_1, c_1) (show (v_1 = (ovR (fun b => b.Y2) ik).1) ∧ (c_1 = (ovR (fun b => b.Y2) ik).2) ∧ (True) from ⟨(by first | exact hx1_0 | exact hx1_1), (by first | exact hx1_0 | exact hx1_1), trivial⟩) (trivial) (.tup [I v_1, I c_1]) (by kernel_rfl) (.inl rfl) (fun _ => rfl) (fun _ => (by simp [tagged, taggedL]))
  obtain ⟨⟨v, c⟩, ⟨hh0, hh1, _⟩, hc⟩ := hh
  exact ⟨v, c, hh0, hh1, hc⟩


-- spec.l00Own
theorem l00Own_ok (list : List Int) (hl : list.length ≤ 100000) : ∃ (out : List Int), (out = list) ∧ CallOK Try.prog 144 [slI false list] (lookO []) false (.arr 8201) (lookO [(8201, .arr 1 out.length (fI out))]) := by
  have hh : ∃ r : (List Int), ((r = list) ∧ (True)) ∧ CallOK Try.prog 144 [slI false list] (lookO []) false (.arr 8201) (lookO [(8201, .arr 1 r.length (fI r))]) := by
    refine fn_okX (Φ := fun r : (List Int) => (r = list) ∧ (True)) [] (fun r => [(8201, .arr 1 r.length (fI r))]) (fn := Try.f144) (nt := 6) Try.func144 rfl rfl (args := [slI false list]) rfl (allcons (.inl ⟨rfl, tagI false _⟩) allnil) (res := fun r => .arr 8201) ?_
    refine x_seq ?_
    refine x_reg [] [0] [] [slI false list] [] [] (by kernel_rfl) trivial ?_
    refine xe_then ?_
    refine x_seq ?_
    refine x_reg [(0, .new 3), (2, .new 5)] [2] [5] [.arr 5] [some (.arr 1 (0 + list.length) (catF 0 (litF [] 1) (fI list)))] [(0 + list.length) * 8 ≤ 140737488355328] (by kernel_rfl) ⟨(by omega), trivial⟩ ?_
    refine xe_then ?_
    refine x_ret ?_
    refine xe_weak [(8201, 5)] (T := [(2, .arr 8201)]) (O := [(8201, .arr 1 ((([] : List Int) ++ list).length) (fI (([] : List Int) ++ list)))]) rfl (⟨.inl rfl, trivial⟩) (⟨.inr ⟨rfl, (by first | rfl | (simp; done) | (simp; omega) | omega), fun i_ hi_ => .inl (by first | rfl | fail)⟩, trivial⟩) ?_
    refine xe_end (([] : List Int) ++ list) (show ((([] : List Int) ++ list) = list) ∧ (True) from ⟨(by first | rfl | simp), trivial⟩) (⟨.inl rfl, trivial⟩) (.arr 8201) (by kernel_rfl) (.inl rfl) (fun h => by cases h) (fun h => by cases h)
  obtain ⟨out, ⟨hh0, _⟩, hc⟩ := hh
  exact ⟨out, hh0, hc⟩


theorem ins_next {xs l : List Int} {i k : Int} (e : l = sortL (xs.take i.toNat)) (h0 : 0 ≤ i) (hi : i.toNat < xs.length) (hk : 0 ≤ k ∧ k ≤ (l.length : Int)) (h1 : ∀ j : Nat, k ≤ (j : Int) → j < l.length → at_ xs i.toNat < at_ l j) (h2 : k ≤ 0 ∨ at_ l (k - 1).toNat ≤ at_ xs i.toNat) :
    l.take k.toNat ++ [at_ xs i.toNat] ++ l.drop k.toNat = sortL (xs.take (i + 1).toNat) := by
  subst e
  have e1 : (i + 1).toNat = i.toNat + 1 := by omega
  rw [e1, List.take_succ_eq_append_getElem hi, ← at_eq hi]
  refine ins_sort (by omega) (fun j hj hl => h1 j (by omega) hl) ?_
  rcases h2 with h2 | h2
  · left; omega
  · by_cases hz : k.toNat = 0
    · exact .inl hz
    · right
      have e2 : (k - 1).toNat = k.toNat - 1 := by omega
      rw [e2] at h2; exact h2

-- spec.l07Median
theorem l07Median_ok (list : List Int) (hl : 1 ≤ list.length ∧ list.length ≤ 1000) : Con Try.prog 110 [slI false list] true (I (medI list)) := by
  refine fn_ok (fn := Try.f110) (nt := 54) Try.func110 rfl rfl rfl rfl (by simp [taggedL, tagged, tagI]) fun B hB => ?_
  refine aw_lens (x := slI false list) 0 rfl (fun len_list => ?_)
  simp [LenOK, LenL, cI, fI, slI] at len_list
  refine aw_seq ?_
  refine aw_reg [] [0] [] [slI false list] [] [] (by kernel_rfl) hB trivial ?_
  refine ae_then ?_
  refine aw_seq ?_
  refine aw_reg [(0, .new 7)] [0, 3] [7] [slI false list, .arr 7] [some (.arr 1 0 (litF [] 1))] [] (by kernel_rfl) hB trivial ?_
  refine ae_then ?_
  refine aw_seq ?_
  refine aw_seq ?_
  refine aw_reg [] [0, 3, 4] [7] [slI false list, .arr 7, I 0] [some (.arr 1 0 (litF [] 1))] [] (by kernel_rfl) hB trivial ?_
  refine ae_then ?_
  refine aw_block ?_
  refine aw_weak hB [] (T := [(0, slI false list), (3, slI true ([] : List Int)), (4, I 0)]) (O := []) rfl (⟨.inl rfl, .inr ⟨(fun _ => rfl), rfl, (by first | rfl | (simp; done) | (simp; omega) | omega), fun i_ hi_ => absurd hi_ (Nat.not_lt_zero _)⟩, .inl rfl, trivial⟩) (trivial) ?_
  refine aw_loop (fun gn gσ => ∃ (sorted : List Int) (i : Int), gn = ((list.length : Int) - i).toNat ∧ (0 ≤ i ∧ i ≤ (list.length : Int)) ∧ ((sorted.length : Int) = i) ∧ (sorted = sortL (list.take i.toNat)) ∧ gσ = mkS [(0, slI false list), (3, slI true sorted), (4, I i)] []) (((list.length : Int) - 0).toNat) ⟨([] : List Int), 0, rfl, (by omega), (by rfl), (by exact sortL_nil.symm), rfl⟩ (fun gn gσ hI => ?_)
  obtain ⟨sorted, i, rfl, hi0, hl0, hs0, rfl⟩ := hI
  refine aw_seq ?_
  refine aw_seq ?_
  by_cases h1 : i < (list.length : Int)
  ·have hi : i.toNat < list.length := by omega
   refine aw_reg [(3, .dec true)] [0, 3, 4, 11] [] [slI false list, slI true sorted, I i, Bv true] [] [i < (list.length : Int)] (by kernel_rfl) hB ⟨h1, trivial⟩ ?_
   refine ae_then ?_
   refine aw_true rfl ?_
   refine aw_skip ?_
   refine ae_then ?_
   refine aw_seq ?_
   refine aw_block ?_
   refine aw_seq ?_
   refine aw_reg [] [0, 3, 4, 5] [] [slI false list, slI true sorted, I i, I (sorted.length : Int)] [] [] (by kernel_rfl) hB trivial ?_
   refine ae_then ?_
   refine aw_seq ?_
   refine aw_block ?_
   refine aw_loop (fun gn gσ => ∃ (k : Int), gn = k.toNat ∧ (0 ≤ k ∧ k ≤ (sorted.length : Int)) ∧ (∀ j : Nat, k ≤ (j : Int) → j < sorted.length → at_ list i.toNat < at_ sorted j) ∧ gσ = mkS [(0, slI false list), (3, slI true sorted), (4, I i), (5, I k)] []) ((sorted.length : Int).toNat) ⟨(sorted.length : Int), rfl, (by omega), (by intro j h1 h2; omega), rfl⟩ (fun gn gσ hI => ?_)
   obtain ⟨k, rfl, hk0, hgt, rfl⟩ := hI
   refine aw_seq ?_
   refine aw_seq ?_
   by_cases h2 : 0 < k
   ·by_cases h3 : (at_ list i.toNat) < (at_ sorted ((k - 1).toNat))
    ·refine aw_reg [(1, .dec true), (12, .dec true)] [0, 3, 4, 5, 29] [] [slI false list, slI true sorted, I i, I k, Bv true] [] [0 < k, inR .i64 (k - 1), (0 : Int) ≤ (k - 1) ∧ (k - 1) < (sorted.length : Int), (0 : Int) ≤ i ∧ i < (list.length : Int), (at_ list i.toNat) < (at_ sorted ((k - 1).toNat))] (by kernel_rfl) hB ⟨h2, (inR_i64 (by omega) (by omega)), ⟨(by omega), (by omega)⟩, ⟨(by omega), (by omega)⟩, h3, trivial⟩ ?_
     refine ae_then ?_
     refine aw_true rfl ?_
     refine aw_skip ?_
     refine ae_then ?_
     refine aw_block ?_
     refine aw_reg [] [0, 3, 4, 5] [] [slI false list, slI true sorted, I i, I (k - 1)] [] [inR .i64 (k - 1)] (by kernel_rfl) hB ⟨(inR_i64 (by omega) (by omega)), trivial⟩ ?_
     refine ae_block 3 ?_
     exact ae_again _ (by omega) ⟨(k - 1), rfl, (by omega), (by intro j h1 h2; by_cases ej : j = (k - 1).toNat; (subst ej; omega); exact hgt j (by omega) h2), rfl⟩
    ·have hin := ins_next hs0 (by omega) hi hk0 hgt (Or.inr (by omega))
     refine aw_reg [(1, .dec true), (12, .dec false)] [0, 3, 4, 5, 29] [] [slI false list, slI true sorted, I i, I k, Bv false] [] [0 < k, inR .i64 (k - 1), (0 : Int) ≤ (k - 1) ∧ (k - 1) < (sorted.length : Int), (0 : Int) ≤ i ∧ i < (list.length : Int), ¬ ((at_ list i.toNat) < (at_ sorted ((k - 1).toNat)))] (by kernel_rfl) hB ⟨h2, (inR_i64 (by omega) (by omega)), ⟨(by omega), (by omega)⟩, ⟨(by omega), (by omega)⟩, h3, trivial⟩ ?_
     refine ae_then ?_
     refine aw_false rfl ?_
     refine aw_exit ?_
     refine ae_exit_then ?_
     refine ae_exit_then ?_
     refine ae_exit_same ?_
     refine ae_then ?_
     refine aw_seq ?_
     obtain ⟨out_1, hx1_0, hc1⟩ := l00Own_ok (sorted.take k.toNat) (by simp; omega)
     have hol_out_1 : out_1.length = ((sorted.take k.toNat)).length := by rw [hx1_0]
     simp only [List.length_take, List.length_drop] at hol_out_1
     refine aw_reg [(3, .lend [] [(8201, .arr 1 out_1.length (fI out_1))] [(false, slI false (sorted.take k.toNat))] false (.arr 8201)), (8, .new 40), (9, .new 41)] [0, 3, 4, 5, 6] [41] [slI false list, slI true sorted, I i, I k, .arr 41] [some (.arr 1 (out_1.length + 1) (catF out_1.length (fI out_1) (litF [I (at_ list i.toNat)] 1)))] [(0 : Int) ≤ 0 ∧ (0 : Int) ≤ k ∧ k ≤ (sorted.length : Int), CallOK Try.prog 144 [slI false (sorted.take k.toNat)] (lookO []) false (.arr 8201) (lookO [(8201, .arr 1 out_1.length (fI out_1))]) ∧ ((false = true → true = true) ∧ 1 = 1 ∧ (k.toNat - 0) = ((sorted.take k.toNat).length) ∧ ∀ i, i < ((sorted.take k.toNat).length) → (cutF 0 (fI sorted)) i = (fI (sorted.take k.toNat)) i ∨ (AV.idsL ((fI (sorted.take k.toNat)) i) = [] ∧ leL (fun _ => none) false ((cutF 0 (fI sorted)) i) ((fI (sorted.take k.toNat)) i))) ∧ True, (0 : Int) ≤ i ∧ i < (list.length : Int), (out_1.length + 1) * 8 ≤ 140737488355328] (by kernel_rfl) hB ⟨⟨(by omega), (by omega), (by omega)⟩, ⟨hc1, ⟨(fun h => by cases h), rfl, (by first | rfl | (simp; done) | (simp; omega) | omega), fun i_ hi_ => .inl (cut_take (enc := cI) hi_)⟩, trivial⟩, ⟨(by omega), (by omega)⟩, (by omega), trivial⟩ ?_
     refine ae_then ?_
     refine aw_reg [(4, .new 46)] [0, 3, 4] [46] [slI false list, .arr 46, I i] [some (.arr 1 ((out_1.length + 1) + ((sorted.length : Int).toNat - k.toNat)) (catF (out_1.length + 1) (catF out_1.length (fI out_1) (litF [I (at_ list i.toNat)] 1)) (cutF k.toNat (fI sorted))))] [(0 : Int) ≤ k ∧ k ≤ (sorted.length : Int) ∧ (sorted.length : Int) ≤ (sorted.length : Int), ((out_1.length + 1) + ((sorted.length : Int).toNat - k.toNat)) * 8 ≤ 140737488355328] (by kernel_rfl) hB ⟨⟨(by omega), (by omega), (by omega)⟩, (by omega), trivial⟩ ?_
     refine ae_block 1 ?_
     refine ae_then ?_
     refine aw_reg [] [0, 3, 4] [46] [slI false list, .arr 46, I (i + 1)] [some (.arr 1 ((out_1.length + 1) + ((sorted.length : Int).toNat - k.toNat)) (catF (out_1.length + 1) (catF out_1.length (fI out_1) (litF [I (at_ list i.toNat)] 1)) (cutF k.toNat (fI sorted))))] [inR .i64 (i + 1)] (by kernel_rfl) hB ⟨(inR_i64 (by omega) (by omega)), trivial⟩ ?_
     refine ae_weak hB [] (T := [(0, slI false list), (3, slI true ((out_1 ++ [(at_ list i.toNat)]) ++ (sorted.drop k.toNat))), (4, I (i + 1))]) (O := []) rfl (⟨.inl rfl, .inr ⟨(fun _ => rfl), rfl, (by first | rfl | (simp; done) | (simp; omega) | omega), fun i_ hi_ => .inl (cat_two (enc := cI) (xs := (out_1 ++ [(at_ list i.toNat)])) (ys := (sorted.drop k.toNat)) (by first | rfl | simp) (fun i_ hi_ => (cat_snoc (enc := cI) (xs := out_1) rfl i_ hi_)) (fun i_ hi_ => (cut_drop (enc := cI) hi_)) i_ hi_)⟩, .inl rfl, trivial⟩) (trivial) (ae_again _ (by omega) ⟨((out_1 ++ [(at_ list i.toNat)]) ++ (sorted.drop k.toNat)), (i + 1), rfl, (by omega), (by simp; omega), (by first | exact hin | (rw [← hin]; simp only [*]; done) | (rw [← hin]; simp [*])), rfl⟩)
   ·have hin := ins_next hs0 (by omega) hi hk0 hgt (Or.inl (by omega))
    refine aw_reg [(1, .dec false)] [0, 3, 4, 5, 29] [] [slI false list, slI true sorted, I i, I k, Bv false] [] [¬ (0 < k)] (by kernel_rfl) hB ⟨h2, trivial⟩ ?_
    refine ae_then ?_
    refine aw_false rfl ?_
    refine aw_exit ?_
    refine ae_exit_then ?_
    refine ae_exit_then ?_
    refine ae_exit_same ?_
    refine ae_then ?_
    refine aw_seq ?_
    obtain ⟨out_2, hx2_0, hc2⟩ := l00Own_ok (sorted.take k.toNat) (by simp; omega)
    have hol_out_2 : out_2.length = ((sorted.take k.toNat)).length := by rw [hx2_0]
    simp only [List.length_take, List.length_drop] at hol_out_2
    refine aw_reg [(3, .lend [] [(8201, .arr 1 out_2.length (fI out_2))] [(false, slI false (sorted.take k.toNat))] false (.arr 8201)), (8, .new 40), (9, .new 41)] [0, 3, 4, 5, 6] [41] [slI false list, slI true sorted, I i, I k, .arr 41] [some (.arr 1 (out_2.length + 1) (catF out_2.length (fI out_2) (litF [I (at_ list i.toNat)] 1)))] [(0 : Int) ≤ 0 ∧ (0 : Int) ≤ k ∧ k ≤ (sorted.length : Int), CallOK Try.prog 144 [slI false (sorted.take k.toNat)] (lookO []) false (.arr 8201) (lookO [(8201, .arr 1 out_2.length (fI out_2))]) ∧ ((false = true → true = true) ∧ 1 = 1 ∧ (k.toNat - 0) = ((sorted.take k.toNat).length) ∧ ∀ i, i < ((sorted.take k.toNat).length) → (cutF 0 (fI sorted)) i = (fI (sorted.take k.toNat)) i ∨ (AV.idsL ((fI (sorted.take k.toNat)) i) = [] ∧ leL (fun _ => none) false ((cutF 0 (fI sorted)) i) ((fI (sorted.take k.toNat)) i))) ∧ True, (0 : Int) ≤ i ∧ i < (list.length : Int), (out_2.length + 1) * 8 ≤ 140737488355328] (by kernel_rfl) hB ⟨⟨(by omega), (by omega), (by omega)⟩, ⟨hc2, ⟨(fun h => by cases h), rfl, (by first | rfl | (simp; done) | (simp; omega) | omega), fun i_ hi_ => .inl (cut_take (enc := cI) hi_)⟩, trivial⟩, ⟨(by omega), (by omega)⟩, (by omega), trivial⟩ ?_
    refine ae_then ?_
    refine aw_reg [(4, .new 46)] [0, 3, 4] [46] [slI false list, .arr 46, I i] [some (.arr 1 ((out_2.length + 1) + ((sorted.length : Int).toNat - k.toNat)) (catF (out_2.length + 1) (catF out_2.length (fI out_2) (litF [I (at_ list i.toNat)] 1)) (cutF k.toNat (fI sorted))))] [(0 : Int) ≤ k ∧ k ≤ (sorted.length : Int) ∧ (sorted.length : Int) ≤ (sorted.length : Int), ((out_2.length + 1) + ((sorted.length : Int).toNat - k.toNat)) * 8 ≤ 140737488355328] (by kernel_rfl) hB ⟨⟨(by omega), (by omega), (by omega)⟩, (by omega), trivial⟩ ?_
    refine ae_block 1 ?_
    refine ae_then ?_
    refine aw_reg [] [0, 3, 4] [46] [slI false list, .arr 46, I (i + 1)] [some (.arr 1 ((out_2.length + 1) + ((sorted.length : Int).toNat - k.toNat)) (catF (out_2.length + 1) (catF out_2.length (fI out_2) (litF [I (at_ list i.toNat)] 1)) (cutF k.toNat (fI sorted))))] [inR .i64 (i + 1)] (by kernel_rfl) hB ⟨(inR_i64 (by omega) (by omega)), trivial⟩ ?_
    refine ae_weak hB [] (T := [(0, slI false list), (3, slI true ((out_2 ++ [(at_ list i.toNat)]) ++ (sorted.drop k.toNat))), (4, I (i + 1))]) (O := []) rfl (⟨.inl rfl, .inr ⟨(fun _ => rfl), rfl, (by first | rfl | (simp; done) | (simp; omega) | omega), fun i_ hi_ => .inl (cat_two (enc := cI) (xs := (out_2 ++ [(at_ list i.toNat)])) (ys := (sorted.drop k.toNat)) (by first | rfl | simp) (fun i_ hi_ => (cat_snoc (enc := cI) (xs := out_2) rfl i_ hi_)) (fun i_ hi_ => (cut_drop (enc := cI) hi_)) i_ hi_)⟩, .inl rfl, trivial⟩) (trivial) (ae_again _ (by omega) ⟨((out_2 ++ [(at_ list i.toNat)]) ++ (sorted.drop k.toNat)), (i + 1), rfl, (by omega), (by simp; omega), (by first | exact hin | (rw [← hin]; simp only [*]; done) | (rw [← hin]; simp [*])), rfl⟩)
  ·have hie : i.toNat = list.length := by omega
   rw [hie, List.take_of_length_le (Nat.le_refl _)] at hs0
   refine aw_reg [(3, .dec false)] [0, 3, 4, 11] [] [slI false list, slI true sorted, I i, Bv false] [] [¬ (i < (list.length : Int))] (by kernel_rfl) hB ⟨h1, trivial⟩ ?_
   refine ae_then ?_
   refine aw_false rfl ?_
   refine aw_exit ?_
   refine ae_exit_then ?_
   refine ae_exit_then ?_
   refine ae_exit_same ?_
   refine ae_then ?_
   refine aw_seq ?_
   refine aw_reg [(4, .nn)] [2] [] [I (at_ sorted ((((sorted.length : Int) - 1) / 2).toNat))] [] [inR .i64 ((sorted.length : Int) - 1), (0 : Int) ≤ ((sorted.length : Int) - 1) ∧ (0 : Int) < 2 ∧ inR .i64 ((sorted.length : Int) - 1), (0 : Int) ≤ (((sorted.length : Int) - 1) / 2) ∧ (((sorted.length : Int) - 1) / 2) < (sorted.length : Int)] (by kernel_rfl) hB ⟨(inR_i64 (by omega) (by omega)), ⟨(by omega), (by omega), (inR_i64 (by omega) (by omega))⟩, ⟨(by omega), (by omega)⟩, trivial⟩ ?_
   refine ae_then ?_
   refine aw_ret ?_
   refine ae_ret hB (I (at_ sorted ((((sorted.length : Int) - 1) / 2).toNat))) (by kernel_rfl) (.inl (by refine congrArg I ?_; rw [hs0]; unfold medI; congr 1; rw [sortL_len]; omega)) rfl (fun _ => trivial)


-- spec.BaseLineOf
theorem specBaseLineOf_ok (ik : Ink) : ∃ (v : Int) (c : Int), (v = (ovR (fun b => b.Y2) ik).1) ∧ (c = (ovR (fun b => b.Y2) ik).2) ∧ Con Try.prog 42 [.agg [slStroke false ik.Strokes]] true (.tup [I v, I c]) := by
  have hh : ∃ r : Int × Int, ((r.1 = (ovR (fun b => b.Y2) ik).1) ∧ (r.2 = (ovR (fun b => b.Y2) ik).2) ∧ (True)) ∧ CallOK Try.prog 42 [.agg [slStroke false ik.Strokes]] (lookO []) true (.tup [I r.1, I r.2]) (lookO []) := by
    refine fn_okX (Φ := fun r : Int × Int => (r.1 = (ovR (fun b => b.Y2) ik).1) ∧ (r.2 = (ovR (fun b => b.Y2) ik).2) ∧ (True)) [] (fun r => []) (fn := Try.f42) (nt := 31) Try.func42 rfl rfl (args := [.agg [slStroke false ik.Strokes]]) rfl (allcons (.inl ⟨rfl, by simp [tagged, taggedL, tagStroke]⟩) allnil) (res := fun r => .tup [I r.1, I r.2]) ?_
    refine x_seq ?_
    refine x_reg [(0, .new 1)] [1] [1] [.ref 1 0] [some (.box [slStroke false ik.Strokes])] [] (by kernel_rfl) trivial ?_
    refine xe_then ?_
    refine x_seq ?_
    refine x_seq ?_
    rcases Bool.eq_false_or_eq_true (okInk' ik) with h1 | h1
    ·have hil := okI_len h1
     refine x_reg [(0, .call [(false, .ptr false [slStroke false ik.Strokes])] true (Bv true))] [1, 7] [1] [.ref 1 0, Bv false] [some (.box [slStroke false ik.Strokes])] [Con Try.prog 56 [.ptr false [slStroke false ik.Strokes]] true (Bv true) ∧ ((false = true → true = true) ∧ AV.idsL [slStroke false ik.Strokes] = [] ∧ ((false = true → false = true) ∧ 1 = 1 ∧ ik.Strokes.length = ik.Strokes.length ∧ ∀ i, i < ik.Strokes.length → (fStroke false ik.Strokes) i = (fStroke false ik.Strokes) i ∨ (AV.idsL ((fStroke false ik.Strokes) i) = [] ∧ leL (fun _ => none) false ((fStroke false ik.Strokes) i) ((fStroke false ik.Strokes) i))) ∧ ([] : List AV) = []) ∧ True] (by kernel_rfl) ⟨⟨(con_bool h1 (l02Ok_ok ik)), ⟨(fun h => by cases h), rfl, ⟨⟨(fun h => by cases h), rfl, rfl, fun i _ => .inl rfl⟩, rfl⟩⟩, trivial⟩, trivial⟩ ?_
     refine xe_then ?_
     refine x_false rfl ?_
     refine x_skip ?_
     refine xe_then ?_
     refine x_seq ?_
     refine x_seq ?_
     by_cases h2 : (ik.Strokes.length : Int) = 0
     ·have hst := ovR_st (f := fun b => b.Y2) h1 h2
      refine x_reg [(3, .dec true)] [1, 11] [1] [.ref 1 0, Bv true] [some (.box [slStroke false ik.Strokes])] [(ik.Strokes.length : Int) = 0] (by kernel_rfl) ⟨h2, trivial⟩ ?_
      refine xe_then ?_
      refine x_true rfl ?_
      refine x_seq ?_
      refine x_reg [] [2, 3] [] [I 0, I 6] [] [] (by kernel_rfl) trivial ?_
      refine xe_then ?_
      refine x_ret ?_
      refine xe_ret_then ?_
      refine xe_end (0, 6) (show (0 = (ovR (fun b => b.Y2) ik).1) ∧ (6 = (ovR (fun b => b.Y2) ik).2) ∧ (True) from ⟨(by first | (rw [hst]; done) | (rw [hst, hx1_0, hfin]; done) | (rw [hst, hfin] at *; assumption) | (rw [hst, hfin]; done) | (rw [hst]; simp only [hfin]; done)), (by first | (rw [hst]; done) | (rw [hst, hx1_0, hfin]; done) | (rw [hst, hfin] at *; assumption) | (rw [hst, hfin]; done) | (rw [hst]; simp only [hfin]; done)), trivial⟩) (trivial) (.tup [I 0, I 6]) (by kernel_rfl) (.inl rfl) (fun _ => rfl) (fun _ => (by simp [tagged, taggedL]))
     ·have hst := ovR_yes (f := fun b => b.Y2) h1 h2
      refine x_reg [(3, .dec false)] [1, 11] [1] [.ref 1 0, Bv false] [some (.box [slStroke false ik.Strokes])] [¬ ((ik.Strokes.length : Int) = 0)] (by kernel_rfl) ⟨h2, trivial⟩ ?_
      refine xe_then ?_
      refine x_false rfl ?_
      refine x_skip ?_
      refine xe_then ?_
      refine x_seq ?_
      refine x_reg [(0, .new 12)] [1, 4] [1, 12] [.ref 1 0, .arr 12] [some (.box [slStroke false ik.Strokes]), some (.arr 1 0 (litF [] 1))] [] (by kernel_rfl) trivial ?_
      refine xe_then ?_
      refine x_seq ?_
      refine x_seq ?_
      refine x_reg [] [1, 4, 5] [1, 12] [.ref 1 0, .arr 12, I 0] [some (.box [slStroke false ik.Strokes]), some (.arr 1 0 (litF [] 1))] [] (by kernel_rfl) trivial ?_
      refine xe_then ?_
      refine x_block ?_
      refine x_weak [] (T := [(1, .ref 1 0), (4, .arr 12), (5, I 0)]) (O := [(1, .box [slStroke false ik.Strokes]), (12, .arr 1 (([] : List Int).length) (fI ([] : List Int)))]) rfl (⟨.inl rfl, .inl rfl, .inl rfl, trivial⟩) (⟨.inl rfl, .inr ⟨rfl, (by first | rfl | (simp; done) | (simp; omega) | omega), fun i_ hi_ => absurd hi_ (Nat.not_lt_zero _)⟩, trivial⟩) ?_
      refine x_loop (X := (List Int) × Int) (fun x => mkS [(1, .ref 1 0), (4, .arr 12), (5, I x.2)] [(1, .box [slStroke false ik.Strokes]), (12, .arr 1 x.1.length (fI x.1))]) (fun x => (0 ≤ x.2 ∧ x.2 ≤ (ik.Strokes.length : Int)) ∧ ((x.1.length : Int) = x.2) ∧ (x.1 = (ik.Strokes.take x.2.toNat).map (fun s => (fun b => b.Y2) (strB s))) ∧ True) (fun x => ((ik.Strokes.length : Int) - x.2).toNat) (([] : List Int), 0) rfl (show (0 ≤ (0 : Int) ∧ (0 : Int) ≤ (ik.Strokes.length : Int)) ∧ ((([] : List Int).length : Int) = (0 : Int)) ∧ (([] : List Int) = (ik.Strokes.take (0 : Int).toNat).map (fun s => (fun b => b.Y2) (strB s))) ∧ True from ⟨(by omega), (by rfl), (by rfl), trivial⟩) (fun x hI => ?_)
      obtain ⟨list, k⟩ := x
      obtain ⟨hi0, hl0, hs0, _⟩ : (0 ≤ k ∧ k ≤ (ik.Strokes.length : Int)) ∧ ((list.length : Int) = k) ∧ (list = (ik.Strokes.take k.toNat).map (fun s => (fun b => b.Y2) (strB s))) ∧ True := hI
      show XW _ _ _ _ (mkS [(1, .ref 1 0), (4, .arr 12), (5, I k)] [(1, .box [slStroke false ik.Strokes]), (12, .arr 1 list.length (fI list))]) _ _
      refine x_seq ?_
      refine x_seq ?_
      by_cases h3 : k < (ik.Strokes.length : Int)
      ·have hi : k.toNat < ik.Strokes.length := by omega
       have hos := okI_all h1 _ hi
       have hbx := boxS_all hos
       unfold okBox at hbx
       refine x_reg [(4, .dec true)] [1, 4, 5, 17] [1, 12] [.ref 1 0, .arr 12, I k, Bv true] [some (.box [slStroke false ik.Strokes]), some (.arr 1 list.length (fI list))] [k < (ik.Strokes.length : Int)] (by kernel_rfl) ⟨h3, trivial⟩ ?_
       refine xe_then ?_
       refine x_true rfl ?_
       refine x_skip ?_
       refine xe_then ?_
       refine x_seq ?_
       refine x_block ?_
       refine x_reg [(5, .call [(true, .ptr false [slPoint false ((at_ ik.Strokes k.toNat).Points)])] true (agBox (boxS (at_ ik.Strokes k.toNat).Points (at_ ik.Strokes k.toNat).Points.length))), (7, .new 27), (8, .new 28)] [1, 4, 5] [1, 28] [.ref 1 0, .arr 28, I k] [some (.box [slStroke false ik.Strokes]), some (.arr 1 (list.length + 1) (catF list.length (fI list) (litF [I ((boxS (at_ ik.Strokes k.toNat).Points (at_ ik.Strokes k.toNat).Points.length).Y2)] 1)))] [(0 : Int) ≤ k ∧ k < (ik.Strokes.length : Int), Con Try.prog 109 [.ptr false [slPoint false ((at_ ik.Strokes k.toNat).Points)]] true (agBox (boxS (at_ ik.Strokes k.toNat).Points (at_ ik.Strokes k.toNat).Points.length)) ∧ ((.ptr false [slPoint false ((at_ ik.Strokes k.toNat).Points)] : AV) = .ptr false [slPoint false ((at_ ik.Strokes k.toNat).Points)]) ∧ True, (list.length + 1) * 8 ≤ 140737488355328] (by kernel_rfl) ⟨⟨(by omega), (by omega)⟩, ⟨(l02BoxOf_ok (at_ ik.Strokes k.toNat) hos), rfl, trivial⟩, (by omega), trivial⟩ ?_
       refine xe_block 1 ?_
       refine xe_then ?_
       refine x_reg [] [1, 4, 5] [1, 28] [.ref 1 0, .arr 28, I (k + 1)] [some (.box [slStroke false ik.Strokes]), some (.arr 1 (list.length + 1) (catF list.length (fI list) (litF [I ((boxS (at_ ik.Strokes k.toNat).Points (at_ ik.Strokes k.toNat).Points.length).Y2)] 1)))] [inR .i64 (k + 1)] (by kernel_rfl) ⟨(inR_i64 (by omega) (by omega)), trivial⟩ ?_
       refine xe_weak [(12, 28)] (T := [(1, .ref 1 0), (4, .arr 12), (5, I (k + 1))]) (O := [(1, .box [slStroke false ik.Strokes]), (12, .arr 1 ((list ++ [(boxS (at_ ik.Strokes k.toNat).Points (at_ ik.Strokes k.toNat).Points.length).Y2]).length) (fI (list ++ [(boxS (at_ ik.Strokes k.toNat).Points (at_ ik.Strokes k.toNat).Points.length).Y2])))]) rfl (⟨.inl rfl, .inl rfl, .inl rfl, trivial⟩) (⟨.inl rfl, .inr ⟨rfl, (by first | rfl | (simp; done) | (simp; omega) | omega), fun i_ hi_ => .inl (cat_snoc (enc := cI) (xs := list) rfl i_ hi_)⟩, trivial⟩) (xe_again ((list ++ [(boxS (at_ ik.Strokes k.toNat).Points (at_ ik.Strokes k.toNat).Points.length).Y2]), (k + 1)) rfl (show (0 ≤ (k + 1) ∧ (k + 1) ≤ (ik.Strokes.length : Int)) ∧ (((list ++ [(boxS (at_ ik.Strokes k.toNat).Points (at_ ik.Strokes k.toNat).Points.length).Y2]).length : Int) = (k + 1)) ∧ ((list ++ [(boxS (at_ ik.Strokes k.toNat).Points (at_ ik.Strokes k.toNat).Points.length).Y2]) = (ik.Strokes.take (k + 1).toNat).map (fun s => (fun b => b.Y2) (strB s))) ∧ True from ⟨(by omega), (by simp; omega), (by rw [hs0]; exact (mapTake_succ (by omega) hi rfl).symm), trivial⟩) (by show (((ik.Strokes.length : Int) - (k + 1)).toNat : Nat) < ((ik.Strokes.length : Int) - k).toNat; omega))
      ·have hfin : list = ik.Strokes.map (fun s => (fun b => b.Y2) (strB s)) := by rw [hs0]; exact map_all (by omega)
       refine x_reg [(4, .dec false)] [1, 4, 5, 17] [1, 12] [.ref 1 0, .arr 12, I k, Bv false] [some (.box [slStroke false ik.Strokes]), some (.arr 1 list.length (fI list))] [¬ (k < (ik.Strokes.length : Int))] (by kernel_rfl) ⟨h3, trivial⟩ ?_
       refine xe_then ?_
       refine x_false rfl ?_
       refine x_exit ?_
       refine xe_exit_then ?_
       refine xe_loop_exit ?_
       refine xe_exit_same ?_
       refine xe_then ?_
       refine x_seq ?_
       refine x_reg [(1, .call [(false, slI false list)] true (I (medI list)))] [2, 3] [] [I (medI list), I 0] [] [Con Try.prog 110 [slI false list] true (I (medI list)) ∧ ((false = true → true = true) ∧ 1 = 1 ∧ list.length = list.length ∧ ∀ i, i < list.length → (fI list) i = (fI list) i ∨ (AV.idsL ((fI list) i) = [] ∧ leL (fun _ => none) false ((fI list) i) ((fI list) i))) ∧ True] (by kernel_rfl) ⟨⟨(l07Median_ok list (by omega)), ⟨(fun h => by cases h), rfl, rfl, fun i _ => .inl rfl⟩, trivial⟩, trivial⟩ ?_
       refine xe_then ?_
       refine x_ret ?_
       refine xe_end ((medI list), 0) (show ((medI list) = (ovR (fun b => b.Y2) ik).1) ∧ (0 = (ovR (fun b => b.Y2) ik).2) ∧ (True) from ⟨(by first | (rw [hst]; done) | (rw [hst, hx1_0, hfin]; done) | (rw [hst, hfin] at *; assumption) | (rw [hst, hfin]; done) | (rw [hst]; simp only [hfin]; done)), (by first | (rw [hst]; done) | (rw [hst, hx1_0, hfin]; done) | (rw [hst, hfin] at *; assumption) | (rw [hst, hfin]; done) | (rw [hst]; simp only [hfin]; done)), trivial⟩) (trivial) (.tup [I (medI list), I 0]) (by kernel_rfl) (.inl rfl) (fun _ => rfl) (fun _ => (by simp [tagged, taggedL]))
    ·have hst := ovR_inv (f := fun b => b.Y2) h1
     refine x_reg [(0, .call [(false, .ptr false [slStroke false ik.Strokes])] true (Bv false))] [1, 7] [1] [.ref 1 0, Bv true] [some (.box [slStroke false ik.Strokes])] [Con Try.prog 56 [.ptr false [slStroke false ik.Strokes]] true (Bv false) ∧ ((false = true → true = true) ∧ AV.idsL [slStroke false ik.Strokes] = [] ∧ ((false = true → false = true) ∧ 1 = 1 ∧ ik.Strokes.length = ik.Strokes.length ∧ ∀ i, i < ik.Strokes.length → (fStroke false ik.Strokes) i = (fStroke false ik.Strokes) i ∨ (AV.idsL ((fStroke false ik.Strokes) i) = [] ∧ leL (fun _ => none) false ((fStroke false ik.Strokes) i) ((fStroke false ik.Strokes) i))) ∧ ([] : List AV) = []) ∧ True] (by kernel_rfl) ⟨⟨(con_bool h1 (l02Ok_ok ik)), ⟨(fun h => by cases h), rfl, ⟨⟨(fun h => by cases h), rfl, rfl, fun i _ => .inl rfl⟩, rfl⟩⟩, trivial⟩, trivial⟩ ?_
     refine xe_then ?_
     refine x_true rfl ?_
     refine x_seq ?_
     refine x_reg [] [2, 3] [] [I 0, I 1] [] [] (by kernel_rfl) trivial ?_
     refine xe_then ?_
     refine x_ret ?_
     refine xe_ret_then ?_
     refine xe_end (0, 1) (show (0 = (ovR (fun b => b.Y2) ik).1) ∧ (1 = (ovR (fun b => b.Y2) ik).2) ∧ (True) from ⟨(by first | (rw [hst]; done) | (rw [hst, hx1_0, hfin]; done) | (rw [hst, hfin] at *; assumption) | (rw [hst, hfin]; done) | (rw [hst]; simp only [hfin]; done)), (by first | (rw [hst]; done) | (rw [hst, hx1_0, hfin]; done) | (rw [hst, hfin] at *; assumption) | (rw [hst, hfin]; done) | (rw [hst]; simp only [hfin]; done)), trivial⟩) (trivial) (.tup [I 0, I 1]) (by kernel_rfl) (.inl rfl) (fun _ => rfl) (fun _ => (by simp [tagged, taggedL]))
  obtain ⟨⟨v, c⟩, ⟨hh0, hh1, _⟩, hc⟩ := hh
  exact ⟨v, c, hh0, hh1, hc⟩


-- impl.MiddleHeight$1
theorem MiddleHeight1_ok (b : Box) (hb : (0 ≤ b.Y2 ∧ b.Y2 ≤ 4095) ∧ 0 ≤ b.Y1 ∧ b.Y1 ≤ 4095) : Con Try.prog 111 [agBox b] true (I (b.Y2 - b.Y1)) := by
  refine fn_ok (fn := Try.f111) (nt := 8) Try.func111 rfl rfl rfl rfl (by simp [taggedL, tagged]) fun B hB => ?_
  refine aw_seq ?_
  refine aw_reg [(0, .new 1)] [1] [1] [.ref 1 0] [some (bxBox b)] [] (by kernel_rfl) hB trivial ?_
  refine ae_then ?_
  refine aw_seq ?_
  refine aw_reg [] [2] [] [I (b.Y2 - b.Y1)] [] [inR .i64 (b.Y2 - b.Y1)] (by kernel_rfl) hB ⟨(inR_i64 (by omega) (by omega)), trivial⟩ ?_
  refine ae_then ?_
  refine aw_ret ?_
  refine ae_ret hB (I (b.Y2 - b.Y1)) (by kernel_rfl) (.inl rfl) rfl (fun _ => trivial)


-- impl.MiddleHeight
-- impl.overBoxes at a closure
theorem over_MiddleHeight (ik : Ink) : ∃ (v : Int) (c : Int), (v = (ovR (fun b => b.Y2 - b.Y1) ik).1) ∧ (c = (ovR (fun b => b.Y2 - b.Y1) ik).2) ∧ Con Try.prog 107 [.agg [slStroke false ik.Strokes], .fn 111 []] true (.tup [I v, I c]) := by
  have hh : ∃ r : Int × Int, ((r.1 = (ovR (fun b => b.Y2 - b.Y1) ik).1) ∧ (r.2 = (ovR (fun b => b.Y2 - b.Y1) ik).2) ∧ (True)) ∧ CallOK Try.prog 107 [.agg [slStroke false ik.Strokes], .fn 111 []] (lookO []) true (.tup [I r.1, I r.2]) (lookO []) := by
    refine fn_okX (Φ := fun r : Int × Int => (r.1 = (ovR (fun b => b.Y2 - b.Y1) ik).1) ∧ (r.2 = (ovR (fun b => b.Y2 - b.Y1) ik).2) ∧ (True)) [] (fun r => []) (fn := Try.f107) (nt := 33) Try.func107 rfl rfl (args := [.agg [slStroke false ik.Strokes], .fn 111 []]) rfl (allcons (.inl ⟨rfl, by simp [tagged, taggedL, tagStroke]⟩) (allcons (.inl ⟨rfl, trivial⟩) allnil)) (res := fun r => .tup [I r.1, I r.2]) ?_
    refine x_seq ?_
    refine x_reg [(0, .new 2)] [1, 2] [2] [.fn 111 [], .ref 2 0] [some (.box [slStroke false ik.Strokes])] [] (by kernel_rfl) trivial ?_
    refine xe_then ?_
    refine x_seq ?_
    refine x_seq ?_
    rcases Bool.eq_false_or_eq_true (okInk' ik) with h1 | h1
    ·have hil := okI_len h1
     refine x_reg [(1, .call [(true, .agg [slStroke false ik.Strokes])] true (Bv true))] [1, 2, 11] [2] [.fn 111 [], .ref 2 0, Bv false] [some (.box [slStroke false ik.Strokes])] [Con Try.prog 52 [.agg [slStroke false ik.Strokes]] true (Bv true) ∧ ((.agg [slStroke false ik.Strokes] : AV) = .agg [slStroke false ik.Strokes]) ∧ True] (by kernel_rfl) ⟨⟨(con_bool h1 (ValidInk_ok ik)), rfl, trivial⟩, trivial⟩ ?_
     refine xe_then ?_
     refine x_false rfl ?_
     refine x_skip ?_
     refine xe_then ?_
     refine x_seq ?_
     refine x_seq ?_
     by_cases h2 : (ik.Strokes.length : Int) = 0
     ·have hst := ovR_st (f := fun b => b.Y2 - b.Y1) h1 h2
      refine x_reg [(3, .dec true)] [1, 2, 15] [2] [.fn 111 [], .ref 2 0, Bv true] [some (.box [slStroke false ik.Strokes])] [(ik.Strokes.length : Int) = 0] (by kernel_rfl) ⟨h2, trivial⟩ ?_
      refine xe_then ?_
      refine x_true rfl ?_
      refine x_seq ?_
      refine x_reg [] [4, 5] [] [I 0, I 6] [] [] (by kernel_rfl) trivial ?_
      refine xe_then ?_
      refine x_ret ?_
      refine xe_ret_then ?_
      refine xe_end (0, 6) (show (0 = (ovR (fun b => b.Y2 - b.Y1) ik).1) ∧ (6 = (ovR (fun b => b.Y2 - b.Y1) ik).2) ∧ (True) from ⟨(by first | (rw [hst]; done) | (rw [hst, hx1_0, hfin]; done) | (rw [hst, hfin] at *; assumption)), (by first | (rw [hst]; done) | (rw [hst, hx1_0, hfin]; done) | (rw [hst, hfin] at *; assumption)), trivial⟩) (trivial) (.tup [I 0, I 6]) (by kernel_rfl) (.inl rfl) (fun _ => rfl) (fun _ => (by simp [tagged, taggedL]))
     ·have hst := ovR_yes (f := fun b => b.Y2 - b.Y1) h1 h2
      refine x_reg [(3, .dec false)] [1, 2, 15] [2] [.fn 111 [], .ref 2 0, Bv false] [some (.box [slStroke false ik.Strokes])] [¬ ((ik.Strokes.length : Int) = 0)] (by kernel_rfl) ⟨h2, trivial⟩ ?_
      refine xe_then ?_
      refine x_false rfl ?_
      refine x_skip ?_
      refine xe_then ?_
      refine x_seq ?_
      refine x_reg [] [1, 2, 6] [2] [.fn 111 [], .ref 2 0, nilA] [some (.box [slStroke false ik.Strokes])] [] (by kernel_rfl) trivial ?_
      refine xe_then ?_
      refine x_seq ?_
      refine x_seq ?_
      refine x_reg [] [1, 6, 17, 18, 19] [] [.fn 111 [], nilA, slStroke false ik.Strokes, I (ik.Strokes.length : Int), I 0] [] [] (by kernel_rfl) trivial ?_
      refine xe_then ?_
      refine x_block ?_
      refine x_nil 6 706 1 (fun _ => []) (by kernel_rfl) ?_
      refine x_weak [] (T := [(1, .fn 111 []), (6, .arr 706), (17, slStroke false ik.Strokes), (18, I (ik.Strokes.length : Int)), (19, I 0)]) (O := [(706, .arr 1 (([] : List Int).length) (fI ([] : List Int)))]) rfl (⟨.inl rfl, .inl rfl, .inl rfl, .inl rfl, .inl rfl, trivial⟩) (⟨.inr ⟨rfl, (by first | rfl | (simp; done) | (simp; omega) | omega), fun i_ hi_ => absurd hi_ (Nat.not_lt_zero _)⟩, trivial⟩) ?_
      refine x_loop (X := (List Int) × Int) (fun x => mkS [(1, .fn 111 []), (6, .arr 706), (17, slStroke false ik.Strokes), (18, I (ik.Strokes.length : Int)), (19, I x.2)] [(706, .arr 1 x.1.length (fI x.1))]) (fun x => (0 ≤ x.2 ∧ x.2 ≤ (ik.Strokes.length : Int)) ∧ ((x.1.length : Int) = x.2) ∧ (x.1 = (ik.Strokes.take x.2.toNat).map (fun s => (fun b => b.Y2 - b.Y1) (strB s))) ∧ True) (fun x => ((ik.Strokes.length : Int) - x.2).toNat) (([] : List Int), 0) rfl (show (0 ≤ (0 : Int) ∧ (0 : Int) ≤ (ik.Strokes.length : Int)) ∧ ((([] : List Int).length : Int) = (0 : Int)) ∧ (([] : List Int) = (ik.Strokes.take (0 : Int).toNat).map (fun s => (fun b => b.Y2 - b.Y1) (strB s))) ∧ True from ⟨(by omega), (by rfl), (by rfl), trivial⟩) (fun x hI => ?_)
      obtain ⟨list, t19⟩ := x
      obtain ⟨hi0, hl0, hs0, _⟩ : (0 ≤ t19 ∧ t19 ≤ (ik.Strokes.length : Int)) ∧ ((list.length : Int) = t19) ∧ (list = (ik.Strokes.take t19.toNat).map (fun s => (fun b => b.Y2 - b.Y1) (strB s))) ∧ True := hI
      show XW _ _ _ _ (mkS [(1, .fn 111 []), (6, .arr 706), (17, slStroke false ik.Strokes), (18, I (ik.Strokes.length : Int)), (19, I t19)] [(706, .arr 1 list.length (fI list))]) _ _
      refine x_seq ?_
      by_cases h3 : t19 < (ik.Strokes.length : Int)
      ·have hi : t19.toNat < ik.Strokes.length := by omega
       have hos := okI_all h1 _ hi
       have hbx := boxS_all hos
       unfold okBox at hbx
       refine x_reg [(0, .dec true)] [1, 6, 17, 18, 19, 20] [706] [.fn 111 [], .arr 706, slStroke false ik.Strokes, I (ik.Strokes.length : Int), I t19, Bv true] [some (.arr 1 list.length (fI list))] [t19 < (ik.Strokes.length : Int)] (by kernel_rfl) ⟨h3, trivial⟩ ?_
       refine xe_then ?_
       refine x_seq ?_
       refine x_true rfl ?_
       refine x_skip ?_
       refine xe_then ?_
       refine x_seq ?_
       refine x_block ?_
       refine x_seq ?_
       refine x_reg [(2, .new 8)] [1, 6, 8, 17, 18, 19] [8, 706] [.fn 111 [], .arr 706, .ref 8 0, slStroke false ik.Strokes, I (ik.Strokes.length : Int), I t19] [some (.box [slPoint false ((at_ ik.Strokes t19.toNat).Points)]), some (.arr 1 list.length (fI list))] [(0 : Int) ≤ t19 ∧ t19 < (ik.Strokes.length : Int)] (by kernel_rfl) ⟨⟨(by omega), (by omega)⟩, trivial⟩ ?_
       refine xe_then ?_
       refine x_reg [(3, .call [(true, .agg [slPoint false ((at_ ik.Strokes t19.toNat).Points)])] true (agBox (boxS (at_ ik.Strokes t19.toNat).Points (at_ ik.Strokes t19.toNat).Points.length))), (4, .call [(true, agBox (boxS (at_ ik.Strokes t19.toNat).Points (at_ ik.Strokes t19.toNat).Points.length))] true (I ((boxS (at_ ik.Strokes t19.toNat).Points (at_ ik.Strokes t19.toNat).Points.length).Y2 - (boxS (at_ ik.Strokes t19.toNat).Points (at_ ik.Strokes t19.toNat).Points.length).Y1))), (5, .new 28), (6, .new 29)] [1, 6, 17, 18, 19] [29] [.fn 111 [], .arr 29, slStroke false ik.Strokes, I (ik.Strokes.length : Int), I t19] [some (.arr 1 (list.length + 1) (catF list.length (fI list) (litF [I ((boxS (at_ ik.Strokes t19.toNat).Points (at_ ik.Strokes t19.toNat).Points.length).Y2 - (boxS (at_ ik.Strokes t19.toNat).Points (at_ ik.Strokes t19.toNat).Points.length).Y1)] 1)))] [Con Try.prog 120 [.agg [slPoint false ((at_ ik.Strokes t19.toNat).Points)]] true (agBox (boxS (at_ ik.Strokes t19.toNat).Points (at_ ik.Strokes t19.toNat).Points.length)) ∧ ((.agg [slPoint false ((at_ ik.Strokes t19.toNat).Points)] : AV) = .agg [slPoint false ((at_ ik.Strokes t19.toNat).Points)]) ∧ True, Con Try.prog 111 [agBox (boxS (at_ ik.Strokes t19.toNat).Points (at_ ik.Strokes t19.toNat).Points.length)] true (I ((boxS (at_ ik.Strokes t19.toNat).Points (at_ ik.Strokes t19.toNat).Points.length).Y2 - (boxS (at_ ik.Strokes t19.toNat).Points (at_ ik.Strokes t19.toNat).Points.length).Y1)) ∧ ((agBox (boxS (at_ ik.Strokes t19.toNat).Points (at_ ik.Strokes t19.toNat).Points.length) : AV) = agBox (boxS (at_ ik.Strokes t19.toNat).Points (at_ ik.Strokes t19.toNat).Points.length)) ∧ True, (list.length + 1) * 8 ≤ 140737488355328] (by kernel_rfl) ⟨⟨(boxOfStroke_ok (at_ ik.Strokes t19.toNat) hos), rfl, trivial⟩, ⟨(MiddleHeight1_ok (boxS (at_ ik.Strokes t19.toNat).Points (at_ ik.Strokes t19.toNat).Points.length) (by omega)), rfl, trivial⟩, (by omega), trivial⟩ ?_
       refine xe_block 1 ?_
       refine xe_then ?_
       refine x_reg [] [1, 6, 17, 18, 19] [29] [.fn 111 [], .arr 29, slStroke false ik.Strokes, I (ik.Strokes.length : Int), I (t19 + 1)] [some (.arr 1 (list.length + 1) (catF list.length (fI list) (litF [I ((boxS (at_ ik.Strokes t19.toNat).Points (at_ ik.Strokes t19.toNat).Points.length).Y2 - (boxS (at_ ik.Strokes t19.toNat).Points (at_ ik.Strokes t19.toNat).Points.length).Y1)] 1)))] [inR .i64 (t19 + 1)] (by kernel_rfl) ⟨(inR_i64 (by omega) (by omega)), trivial⟩ ?_
       refine xe_weak [(706, 29)] (T := [(1, .fn 111 []), (6, .arr 706), (17, slStroke false ik.Strokes), (18, I (ik.Strokes.length : Int)), (19, I (t19 + 1))]) (O := [(706, .arr 1 ((list ++ [(boxS (at_ ik.Strokes t19.toNat).Points (at_ ik.Strokes t19.toNat).Points.length).Y2 - (boxS (at_ ik.Strokes t19.toNat).Points (at_ ik.Strokes t19.toNat).Points.length).Y1]).length) (fI (list ++ [(boxS (at_ ik.Strokes t19.toNat).Points (at_ ik.Strokes t19.toNat).Points.length).Y2 - (boxS (at_ ik.Strokes t19.toNat).Points (at_ ik.Strokes t19.toNat).Points.length).Y1])))]) rfl (⟨.inl rfl, .inl rfl, .inl rfl, .inl rfl, .inl rfl, trivial⟩) (⟨.inr ⟨rfl, (by first | rfl | (simp; done) | (simp; omega) | omega), fun i_ hi_ => .inl (cat_snoc (enc := cI) (xs := list) rfl i_ hi_)⟩, trivial⟩) (xe_again ((list ++ [(boxS (at_ ik.Strokes t19.toNat).Points (at_ ik.Strokes t19.toNat).Points.length).Y2 - (boxS (at_ ik.Strokes t19.toNat).Points (at_ ik.Strokes t19.toNat).Points.length).Y1]), (t19 + 1)) rfl (show (0 ≤ (t19 + 1) ∧ (t19 + 1) ≤ (ik.Strokes.length : Int)) ∧ (((list ++ [(boxS (at_ ik.Strokes t19.toNat).Points (at_ ik.Strokes t19.toNat).Points.length).Y2 - (boxS (at_ ik.Strokes t19.toNat).Points (at_ ik.Strokes t19.toNat).Points.length).Y1]).length : Int) = (t19 + 1)) ∧ ((list ++ [(boxS (at_ ik.Strokes t19.toNat).Points (at_ ik.Strokes t19.toNat).Points.length).Y2 - (boxS (at_ ik.Strokes t19.toNat).Points (at_ ik.Strokes t19.toNat).Points.length).Y1]) = (ik.Strokes.take (t19 + 1).toNat).map (fun s => (fun b => b.Y2 - b.Y1) (strB s))) ∧ True from ⟨(by omega), (by simp; omega), (by rw [hs0]; exact (mapTake_succ (by omega) hi rfl).symm), trivial⟩) (by show (((ik.Strokes.length : Int) - (t19 + 1)).toNat : Nat) < ((ik.Strokes.length : Int) - t19).toNat; omega))
      ·have hfin : list = ik.Strokes.map (fun s => (fun b => b.Y2 - b.Y1) (strB s)) := by rw [hs0]; exact map_all (by omega)
       refine x_reg [(0, .dec false)] [1, 6, 17, 18, 19, 20] [706] [.fn 111 [], .arr 706, slStroke false ik.Strokes, I (ik.Strokes.length : Int), I t19, Bv false] [some (.arr 1 list.length (fI list))] [¬ (t19 < (ik.Strokes.length : Int))] (by kernel_rfl) ⟨h3, trivial⟩ ?_
       refine xe_then ?_
       refine x_seq ?_
       refine x_false rfl ?_
       refine x_exit ?_
       refine xe_exit_then ?_
       refine xe_loop_exit ?_
       refine xe_exit_same ?_
       refine xe_then ?_
       refine x_seq ?_
       refine x_weak [(7201, 706)] (T := [(1, .fn 111 []), (6, .arr 7201), (17, slStroke false ik.Strokes), (18, I (ik.Strokes.length : Int)), (19, I t19), (20, Bv false)]) (O := [(7201, .arr 1 list.length (fI list))]) rfl (⟨.inl rfl, .inl rfl, .inl rfl, .inl rfl, .inl rfl, .inl rfl, trivial⟩) (⟨.inl rfl, trivial⟩) ?_
       obtain ⟨v_1, list'_1, hx1_0, hc1⟩ := medianOf_ok list (by omega)
       refine x_reg [(1, .lend [(7201, .arr 1 list.length (fI list), .arr 1 list'_1.length (fI list'_1))] [] [(true, .arr 7201)] true (I v_1))] [4, 5] [] [I v_1, I 0] [] [CallOK Try.prog 167 [.arr 7201] (lookO [(7201, .arr 1 list.length (fI list))]) true (I v_1) (lookO [(7201, .arr 1 list'_1.length (fI list'_1))]) ∧ ((.arr 7201 : AV) = .arr 7201) ∧ (((.arr 1 list.length (fI list) : Ob) = .arr 1 list.length (fI list) ∨ obLe noOb true (.arr 1 list.length (fI list)) (.arr 1 list.length (fI list))) ∧ taggedO false (.arr 1 list.length (fI list))) ∧ True] (by kernel_rfl) ⟨⟨hc1, rfl, ⟨.inl rfl, fun _ _ => tagcI false _⟩, trivial⟩, trivial⟩ ?_
       refine xe_then ?_
       refine x_ret ?_
       refine xe_end (v_1, 0) (show (v_1 = (ovR (fun b => b.Y2 - b.Y1) ik).1) ∧ (0 = (ovR (fun b => b.Y2 - b.Y1) ik).2) ∧ (True) from ⟨(by first | (rw [hst]; done) | (rw [hst, hx1_0, hfin]; done) | (rw [hst, hfin] at *; assumption)), (by first | (rw [hst]; done) | (rw [hst, hx1_0, hfin]; done) | (rw [hst, hfin] at *; assumption)), trivial⟩) (trivial) (.tup [I v_1, I 0]) (by kernel_rfl) (.inl rfl) (fun _ => rfl) (fun _ => (by simp [tagged, taggedL]))
    ·have hst := ovR_inv (f := fun b => b.Y2 - b.Y1) h1
     refine x_reg [(1, .call [(true, .agg [slStroke false ik.Strokes])] true (Bv false))] [1, 2, 11] [2] [.fn 111 [], .ref 2 0, Bv true] [some (.box [slStroke false ik.Strokes])] [Con Try.prog 52 [.agg [slStroke false ik.Strokes]] true (Bv false) ∧ ((.agg [slStroke false ik.Strokes] : AV) = .agg [slStroke false ik.Strokes]) ∧ True] (by kernel_rfl) ⟨⟨(con_bool h1 (ValidInk_ok ik)), rfl, trivial⟩, trivial⟩ ?_
     refine xe_then ?_
     refine x_true rfl ?_
     refine x_seq ?_
     refine x_reg [] [4, 5] [] [I 0, I 1] [] [] (by kernel_rfl) trivial ?_
     refine xe_then ?_
     refine x_ret ?_
     refine xe_ret_then ?_
     refine xe_end (0, 1) (show (0 = (ovR (fun b => b.Y2 - b.Y1) ik).1) ∧ (1 = (ovR (fun b => b.Y2 - b.Y1) ik).2) ∧ (True) from ⟨(by first | (rw [hst]; done) | (rw [hst, hx1_0, hfin]; done) | (rw [hst, hfin] at *; assumption)), (by first | (rw [hst]; done) | (rw [hst, hx1_0, hfin]; done) | (rw [hst, hfin] at *; assumption)), trivial⟩) (trivial) (.tup [I 0, I 1]) (by kernel_rfl) (.inl rfl) (fun _ => rfl) (fun _ => (by simp [tagged, taggedL]))
  obtain ⟨⟨v, c⟩, ⟨hh0, hh1, _⟩, hc⟩ := hh
  exact ⟨v, c, hh0, hh1, hc⟩

theorem implMiddleHeight_ok (ik : Ink) : ∃ (v : Int) (c : Int), (v = (ovR (fun b => b.Y2 - b.Y1) ik).1) ∧ (c = (ovR (fun b => b.Y2 - b.Y1) ik).2) ∧ Con Try.prog 43 [.agg [slStroke false ik.Strokes]] true (.tup [I v, I c]) := by
  have hh : ∃ r : Int × Int, ((r.1 = (ovR (fun b => b.Y2 - b.Y1) ik).1) ∧ (r.2 = (ovR (fun b => b.Y2 - b.Y1) ik).2) ∧ (True)) ∧ CallOK Try.prog 43 [.agg [slStroke false ik.Strokes]] (lookO []) true (.tup [I r.1, I r.2]) (lookO []) := by
    refine fn_okX (Φ := fun r : Int × Int => (r.1 = (ovR (fun b => b.Y2 - b.Y1) ik).1) ∧ (r.2 = (ovR (fun b => b.Y2 - b.Y1) ik).2) ∧ (True)) [] (fun r => []) (fn := Try.f43) (nt := 8) Try.func43 rfl rfl (args := [.agg [slStroke false ik.Strokes]]) rfl (allcons (.inl ⟨rfl, by simp [tagged, taggedL, tagStroke]⟩) allnil) (res := fun r => .tup [I r.1, I r.2]) ?_
    refine x_seq ?_
    refine x_reg [(0, .new 1)] [1] [1] [.ref 1 0] [some (.box [slStroke false ik.Strokes])] [] (by kernel_rfl) trivial ?_
    refine xe_then ?_
    refine x_seq ?_
    obtain ⟨v_1, c_1, hx1_0, hx1_1, hc1⟩ := over_MiddleHeight ik
    refine x_reg [(1, .call [(true, .agg [slStroke false ik.Strokes]), (true, .fn 111 [])] true (.tup [I v_1, I c_1]))] [2, 3] [] [I v_1, I c_1] [] [Con Try.prog 107 [.agg [slStroke false ik.Strokes], .fn 111 []] true (.tup [I v_1, I c_1]) ∧ ((.agg [slStroke false ik.Strokes] : AV) = .agg [slStroke false ik.Strokes]) ∧ ((.fn 111 [] : AV) = .fn 111 []) ∧ True] (by kernel_rfl) ⟨⟨hc1, rfl, rfl, trivial⟩, trivial⟩ ?_
    refine xe_then ?_
    refine x_ret ?_
    refine xe_end (v_1, c_1) (show (v_1 = (ovR (fun b => b.Y2 - b.Y1) ik).1) ∧ (c_1 = (ovR (fun b => b.Y2 - b.Y1) ik).2) ∧ (True) from ⟨(by first | exact hx1_0 | exact hx1_1), (by first | exact hx1_0 | exact hx1_1), trivial⟩) (trivial) (.tup [I v_1, I c_1]) (by kernel_rfl) (.inl rfl) (fun _ => rfl) (fun _ => (by simp [tagged, taggedL]))
  obtain ⟨⟨v, c⟩, ⟨hh0, hh1, _⟩, hc⟩ := hh
  exact ⟨v, c, hh0, hh1, hc⟩


-- spec.MiddleHeight
theorem specMiddleHeight_ok (ik : Ink) : ∃ (v : Int) (c : Int), (v = (ovR (fun b => b.Y2 - b.Y1) ik).1) ∧ (c = (ovR (fun b => b.Y2 - b.Y1) ik).2) ∧ Con Try.prog 44 [.agg [slStroke false ik.Strokes]] true (.tup [I v, I c]) := by
  have hh : ∃ r : Int × Int, ((r.1 = (ovR (fun b => b.Y2 - b.Y1) ik).1) ∧ (r.2 = (ovR (fun b => b.Y2 - b.Y1) ik).2) ∧ (True)) ∧ CallOK Try.prog 44 [.agg [slStroke false ik.Strokes]] (lookO []) true (.tup [I r.1, I r.2]) (lookO []) := by
    refine fn_okX (Φ := fun r : Int × Int => (r.1 = (ovR (fun b => b.Y2 - b.Y1) ik).1) ∧ (r.2 = (ovR (fun b => b.Y2 - b.Y1) ik).2) ∧ (True)) [] (fun r => []) (fn := Try.f44) (nt := 36) Try.func44 rfl rfl (args := [.agg [slStroke false ik.Strokes]]) rfl (allcons (.inl ⟨rfl, by simp [tagged, taggedL, tagStroke]⟩) allnil) (res := fun r => .tup [I r.1, I r.2]) ?_
    refine x_seq ?_
    refine x_reg [(0, .new 1)] [1] [1] [.ref 1 0] [some (.box [slStroke false ik.Strokes])] [] (by kernel_rfl) trivial ?_
    refine xe_then ?_
    refine x_seq ?_
    refine x_seq ?_
    rcases Bool.eq_false_or_eq_true (okInk' ik) with h1 | h1
    ·have hil := okI_len h1
     refine x_reg [(0, .call [(false, .ptr false [slStroke false ik.Strokes])] true (Bv true))] [1, 8] [1] [.ref 1 0, Bv false] [some (.box [slStroke false ik.Strokes])] [Con Try.prog 56 [.ptr false [slStroke false ik.Strokes]] true (Bv true) ∧ ((false = true → true = true) ∧ AV.idsL [slStroke false ik.Strokes] = [] ∧ ((false = true → false = true) ∧ 1 = 1 ∧ ik.Strokes.length = ik.Strokes.length ∧ ∀ i, i < ik.Strokes.length → (fStroke false ik.Strokes) i = (fStroke false ik.Strokes) i ∨ (AV.idsL ((fStroke false ik.Strokes) i) = [] ∧ leL (fun _ => none) false ((fStroke false ik.Strokes) i) ((fStroke false ik.Strokes) i))) ∧ ([] : List AV) = []) ∧ True] (by kernel_rfl) ⟨⟨(con_bool h1 (l02Ok_ok ik)), ⟨(fun h => by cases h), rfl, ⟨⟨(fun h => by cases h), rfl, rfl, fun i _ => .inl rfl⟩, rfl⟩⟩, trivial⟩, trivial⟩ ?_
     refine xe_then ?_
     refine x_false rfl ?_
     refine x_skip ?_
     refine xe_then ?_
     refine x_seq ?_
     refine x_seq ?_
     by_cases h2 : (ik.Strokes.length : Int) = 0
     ·have hst := ovR_st (f := fun b => b.Y2 - b.Y1) h1 h2
      refine x_reg [(3, .dec true)] [1, 12] [1] [.ref 1 0, Bv true] [some (.box [slStroke false ik.Strokes])] [(ik.Strokes.length : Int) = 0] (by kernel_rfl) ⟨h2, trivial⟩ ?_
      refine xe_then ?_
      refine x_true rfl ?_
      refine x_seq ?_
      refine x_reg [] [2, 3] [] [I 0, I 6] [] [] (by kernel_rfl) trivial ?_
      refine xe_then ?_
      refine x_ret ?_
      refine xe_ret_then ?_
      refine xe_end (0, 6) (show (0 = (ovR (fun b => b.Y2 - b.Y1) ik).1) ∧ (6 = (ovR (fun b => b.Y2 - b.Y1) ik).2) ∧ (True) from ⟨(by first | (rw [hst]; done) | (rw [hst, hx1_0, hfin]; done) | (rw [hst, hfin] at *; assumption) | (rw [hst, hfin]; done) | (rw [hst]; simp only [hfin]; done)), (by first | (rw [hst]; done) | (rw [hst, hx1_0, hfin]; done) | (rw [hst, hfin] at *; assumption) | (rw [hst, hfin]; done) | (rw [hst]; simp only [hfin]; done)), trivial⟩) (trivial) (.tup [I 0, I 6]) (by kernel_rfl) (.inl rfl) (fun _ => rfl) (fun _ => (by simp [tagged, taggedL]))
     ·have hst := ovR_yes (f := fun b => b.Y2 - b.Y1) h1 h2
      refine x_reg [(3, .dec false)] [1, 12] [1] [.ref 1 0, Bv false] [some (.box [slStroke false ik.Strokes])] [¬ ((ik.Strokes.length : Int) = 0)] (by kernel_rfl) ⟨h2, trivial⟩ ?_
      refine xe_then ?_
      refine x_false rfl ?_
      refine x_skip ?_
      refine xe_then ?_
      refine x_seq ?_
      refine x_reg [(0, .new 13)] [1, 4] [1, 13] [.ref 1 0, .arr 13] [some (.box [slStroke false ik.Strokes]), some (.arr 1 0 (litF [] 1))] [] (by kernel_rfl) trivial ?_
      refine xe_then ?_
      refine x_seq ?_
      refine x_seq ?_
      refine x_reg [] [1, 4, 5] [1, 13] [.ref 1 0, .arr 13, I 0] [some (.box [slStroke false ik.Strokes]), some (.arr 1 0 (litF [] 1))] [] (by kernel_rfl) trivial ?_
      refine xe_then ?_
      refine x_block ?_
      refine x_weak [] (T := [(1, .ref 1 0), (4, .arr 13), (5, I 0)]) (O := [(1, .box [slStroke false ik.Strokes]), (13, .arr 1 (([] : List Int).length) (fI ([] : List Int)))]) rfl (⟨.inl rfl, .inl rfl, .inl rfl, trivial⟩) (⟨.inl rfl, .inr ⟨rfl, (by first | rfl | (simp; done) | (simp; omega) | omega), fun i_ hi_ => absurd hi_ (Nat.not_lt_zero _)⟩, trivial⟩) ?_
      refine x_loop (X := (List Int) × Int) (fun x => mkS [(1, .ref 1 0), (4, .arr 13), (5, I x.2)] [(1, .box [slStroke false ik.Strokes]), (13, .arr 1 x.1.length (fI x.1))]) (fun x => (0 ≤ x.2 ∧ x.2 ≤ (ik.Strokes.length : Int)) ∧ ((x.1.length : Int) = x.2) ∧ (x.1 = (ik.Strokes.take x.2.toNat).map (fun s => (fun b => b.Y2 - b.Y1) (strB s))) ∧ True) (fun x => ((ik.Strokes.length : Int) - x.2).toNat) (([] : List Int), 0) rfl (show (0 ≤ (0 : Int) ∧ (0 : Int) ≤ (ik.Strokes.length : Int)) ∧ ((([] : List Int).length : Int) = (0 : Int)) ∧ (([] : List Int) = (ik.Strokes.take (0 : Int).toNat).map (fun s => (fun b => b.Y2 - b.Y1) (strB s))) ∧ True from ⟨(by omega), (by rfl), (by rfl), trivial⟩) (fun x hI => ?_)
      obtain ⟨list, k⟩ := x
      obtain ⟨hi0, hl0, hs0, _⟩ : (0 ≤ k ∧ k ≤ (ik.Strokes.length : Int)) ∧ ((list.length : Int) = k) ∧ (list = (ik.Strokes.take k.toNat).map (fun s => (fun b => b.Y2 - b.Y1) (strB s))) ∧ True := hI
      show XW _ _ _ _ (mkS [(1, .ref 1 0), (4, .arr 13), (5, I k)] [(1, .box [slStroke false ik.Strokes]), (13, .arr 1 list.length (fI list))]) _ _
      refine x_seq ?_
      refine x_seq ?_
      by_cases h3 : k < (ik.Strokes.length : Int)
      ·have hi : k.toNat < ik.Strokes.length := by omega
       have hos := okI_all h1 _ hi
       have hbx := boxS_all hos
       unfold okBox at hbx
       refine x_reg [(4, .dec true)] [1, 4, 5, 18] [1, 13] [.ref 1 0, .arr 13, I k, Bv true] [some (.box [slStroke false ik.Strokes]), some (.arr 1 list.length (fI list))] [k < (ik.Strokes.length : Int)] (by kernel_rfl) ⟨h3, trivial⟩ ?_
       refine xe_then ?_
       refine x_true rfl ?_
       refine x_skip ?_
       refine xe_then ?_
       refine x_seq ?_
       refine x_block ?_
       refine x_seq ?_
       refine x_reg [(4, .call [(true, .ptr false [slPoint false ((at_ ik.Strokes k.toNat).Points)])] true (agBox (boxS (at_ ik.Strokes k.toNat).Points (at_ ik.Strokes k.toNat).Points.length))), (5, .new 6)] [1, 4, 5, 6] [1, 6, 13] [.ref 1 0, .arr 13, I k, .ref 6 0] [some (.box [slStroke false ik.Strokes]), some (bxBox (boxS (at_ ik.Strokes k.toNat).Points (at_ ik.Strokes k.toNat).Points.length)), some (.arr 1 list.length (fI list))] [(0 : Int) ≤ k ∧ k < (ik.Strokes.length : Int), Con Try.prog 109 [.ptr false [slPoint false ((at_ ik.Strokes k.toNat).Points)]] true (agBox (boxS (at_ ik.Strokes k.toNat).Points (at_ ik.Strokes k.toNat).Points.length)) ∧ ((.ptr false [slPoint false ((at_ ik.Strokes k.toNat).Points)] : AV) = .ptr false [slPoint false ((at_ ik.Strokes k.toNat).Points)]) ∧ True] (by kernel_rfl) ⟨⟨(by omega), (by omega)⟩, ⟨(l02BoxOf_ok (at_ ik.Strokes k.toNat) hos), rfl, trivial⟩, trivial⟩ ?_
       refine xe_then ?_
       refine x_reg [(6, .new 32), (7, .new 33)] [1, 4, 5] [1, 33] [.ref 1 0, .arr 33, I k] [some (.box [slStroke false ik.Strokes]), some (.arr 1 (list.length + 1) (catF list.length (fI list) (litF [I (((boxS (at_ ik.Strokes k.toNat).Points (at_ ik.Strokes k.toNat).Points.length).Y2) - ((boxS (at_ ik.Strokes k.toNat).Points (at_ ik.Strokes k.toNat).Points.length).Y1))] 1)))] [inR .i64 (((boxS (at_ ik.Strokes k.toNat).Points (at_ ik.Strokes k.toNat).Points.length).Y2) - ((boxS (at_ ik.Strokes k.toNat).Points (at_ ik.Strokes k.toNat).Points.length).Y1)), (list.length + 1) * 8 ≤ 140737488355328] (by kernel_rfl) ⟨(inR_i64 (by omega) (by omega)), (by omega), trivial⟩ ?_
       refine xe_block 1 ?_
       refine xe_then ?_
       refine x_reg [] [1, 4, 5] [1, 33] [.ref 1 0, .arr 33, I (k + 1)] [some (.box [slStroke false ik.Strokes]), some (.arr 1 (list.length + 1) (catF list.length (fI list) (litF [I (((boxS (at_ ik.Strokes k.toNat).Points (at_ ik.Strokes k.toNat).Points.length).Y2) - ((boxS (at_ ik.Strokes k.toNat).Points (at_ ik.Strokes k.toNat).Points.length).Y1))] 1)))] [inR .i64 (k + 1)] (by kernel_rfl) ⟨(inR_i64 (by omega) (by omega)), trivial⟩ ?_
       refine xe_weak [(13, 33)] (T := [(1, .ref 1 0), (4, .arr 13), (5, I (k + 1))]) (O := [(1, .box [slStroke false ik.Strokes]), (13, .arr 1 ((list ++ [(((boxS (at_ ik.Strokes k.toNat).Points (at_ ik.Strokes k.toNat).Points.length).Y2) - ((boxS (at_ ik.Strokes k.toNat).Points (at_ ik.Strokes k.toNat).Points.length).Y1))]).length) (fI (list ++ [(((boxS (at_ ik.Strokes k.toNat).Points (at_ ik.Strokes k.toNat).Points.length).Y2) - ((boxS (at_ ik.Strokes k.toNat).Points (at_ ik.Strokes k.toNat).Points.length).Y1))])))]) rfl (⟨.inl rfl, .inl rfl, .inl rfl, trivial⟩) (⟨.inl rfl, .inr ⟨rfl, (by first | rfl | (simp; done) | (simp; omega) | omega), fun i_ hi_ => .inl (cat_snoc (enc := cI) (xs := list) rfl i_ hi_)⟩, trivial⟩) (xe_again ((list ++ [(((boxS (at_ ik.Strokes k.toNat).Points (at_ ik.Strokes k.toNat).Points.length).Y2) - ((boxS (at_ ik.Strokes k.toNat).Points (at_ ik.Strokes k.toNat).Points.length).Y1))]), (k + 1)) rfl (show (0 ≤ (k + 1) ∧ (k + 1) ≤ (ik.Strokes.length : Int)) ∧ (((list ++ [(((boxS (at_ ik.Strokes k.toNat).Points (at_ ik.Strokes k.toNat).Points.length).Y2) - ((boxS (at_ ik.Strokes k.toNat).Points (at_ ik.Strokes k.toNat).Points.length).Y1))]).length : Int) = (k + 1)) ∧ ((list ++ [(((boxS (at_ ik.Strokes k.toNat).Points (at_ ik.Strokes k.toNat).Points.length).Y2) - ((boxS (at_ ik.Strokes k.toNat).Points (at_ ik.Strokes k.toNat).Points.length).Y1))]) = (ik.Strokes.take (k + 1).toNat).map (fun s => (fun b => b.Y2 - b.Y1) (strB s))) ∧ True from ⟨(by omega), (by simp; omega), (by rw [hs0]; exact (mapTake_succ (by omega) hi rfl).symm), trivial⟩) (by show (((ik.Strokes.length : Int) - (k + 1)).toNat : Nat) < ((ik.Strokes.length : Int) - k).toNat; omega))
      ·have hfin : list = ik.Strokes.map (fun s => (fun b => b.Y2 - b.Y1) (strB s)) := by rw [hs0]; exact map_all (by omega)
       refine x_reg [(4, .dec false)] [1, 4, 5, 18] [1, 13] [.ref 1 0, .arr 13, I k, Bv false] [some (.box [slStroke false ik.Strokes]), some (.arr 1 list.length (fI list))] [¬ (k < (ik.Strokes.length : Int))] (by kernel_rfl) ⟨h3, trivial⟩ ?_
       refine xe_then ?_
       refine x_false rfl ?_
       refine x_exit ?_
       refine xe_exit_then ?_
       refine xe_loop_exit ?_
       refine xe_exit_same ?_
       refine xe_then ?_
       refine x_seq ?_
       refine x_reg [(1, .call [(false, slI false list)] true (I (medI list)))] [2, 3] [] [I (medI list), I 0] [] [Con Try.prog 110 [slI false list] true (I (medI list)) ∧ ((false = true → true = true) ∧ 1 = 1 ∧ list.length = list.length ∧ ∀ i, i < list.length → (fI list) i = (fI list) i ∨ (AV.idsL ((fI list) i) = [] ∧ leL (fun _ => none) false ((fI list) i) ((fI list) i))) ∧ True] (by kernel_rfl) ⟨⟨(l07Median_ok list (by omega)), ⟨(fun h => by cases h), rfl, rfl, fun i _ => .inl rfl⟩, trivial⟩, trivial⟩ ?_
       refine xe_then ?_
       refine x_ret ?_
       refine xe_end ((medI list), 0) (show ((medI list) = (ovR (fun b => b.Y2 - b.Y1) ik).1) ∧ (0 = (ovR (fun b => b.Y2 - b.Y1) ik).2) ∧ (True) from ⟨(by first | (rw [hst]; done) | (rw [hst, hx1_0, hfin]; done) | (rw [hst, hfin] at *; assumption) | (rw [hst, hfin]; done) | (rw [hst]; simp only [hfin]; done)), (by first | (rw [hst]; done) | (rw [hst, hx1_0, hfin]; done) | (rw [hst, hfin] at *; assumption) | (rw [hst, hfin]; done) | (rw [hst]; simp only [hfin]; done)), trivial⟩) (trivial) (.tup [I (medI list), I 0]) (by kernel_rfl) (.inl rfl) (fun _ => rfl) (fun _ => (by simp [tagged, taggedL]))
    ·have hst := ovR_inv (f := fun b => b.Y2 - b.Y1) h1
     refine x_reg [(0, .call [(false, .ptr false [slStroke false ik.Strokes])] true (Bv false))] [1, 8] [1] [.ref 1 0, Bv true] [some (.box [slStroke false ik.Strokes])] [Con Try.prog 56 [.ptr false [slStroke false ik.Strokes]] true (Bv false) ∧ ((false = true → true = true) ∧ AV.idsL [slStroke false ik.Strokes] = [] ∧ ((false = true → false = true) ∧ 1 = 1 ∧ ik.Strokes.length = ik.Strokes.length ∧ ∀ i, i < ik.Strokes.length → (fStroke false ik.Strokes) i = (fStroke false ik.Strokes) i ∨ (AV.idsL ((fStroke false ik.Strokes) i) = [] ∧ leL (fun _ => none) false ((fStroke false ik.Strokes) i) ((fStroke false ik.Strokes) i))) ∧ ([] : List AV) = []) ∧ True] (by kernel_rfl) ⟨⟨(con_bool h1 (l02Ok_ok ik)), ⟨(fun h => by cases h), rfl, ⟨⟨(fun h => by cases h), rfl, rfl, fun i _ => .inl rfl⟩, rfl⟩⟩, trivial⟩, trivial⟩ ?_
     refine xe_then ?_
     refine x_true rfl ?_
     refine x_seq ?_
     refine x_reg [] [2, 3] [] [I 0, I 1] [] [] (by kernel_rfl) trivial ?_
     refine xe_then ?_
     refine x_ret ?_
     refine xe_ret_then ?_
     refine xe_end (0, 1) (show (0 = (ovR (fun b => b.Y2 - b.Y1) ik).1) ∧ (1 = (ovR (fun b => b.Y2 - b.Y1) ik).2) ∧ (True) from ⟨(by first | (rw [hst]; done) | (rw [hst, hx1_0, hfin]; done) | (rw [hst, hfin] at *; assumption) | (rw [hst, hfin]; done) | (rw [hst]; simp only [hfin]; done)), (by first | (rw [hst]; done) | (rw [hst, hx1_0, hfin]; done) | (rw [hst, hfin] at *; assumption) | (rw [hst, hfin]; done) | (rw [hst]; simp only [hfin]; done)), trivial⟩) (trivial) (.tup [I 0, I 1]) (by kernel_rfl) (.inl rfl) (fun _ => rfl) (fun _ => (by simp [tagged, taggedL]))
  obtain ⟨⟨v, c⟩, ⟨hh0, hh1, _⟩, hc⟩ := hh
  exact ⟨v, c, hh0, hh1, hc⟩


def ptcR (x : Ink) : Int × Int := if okInk' x = true then (ctI x.Strokes x.Strokes.length, 0) else (0, 1)
theorem ptc_yes {x : Ink} (h : okInk' x = true) : ptcR x = (ctI x.Strokes x.Strokes.length, 0) := by simp [ptcR, h]
theorem ptc_no {x : Ink} (h : okInk' x = false) : ptcR x = (0, 1) := by simp [ptcR, h]
theorem ptc_ok {x : Ink} (h : (ptcR x).2 = 0) : okInk' x = true := by
  unfold ptcR at h
  split at h
  · assumption
  · cases h
theorem ptc_bad {x : Ink} (h : ¬ (ptcR x).2 = 0) : okInk' x = false ∧ (ptcR x).2 = 1 := by
  cases e : okInk' x with
  | true => rw [ptc_yes e] at h; exact absurd rfl h
  | false => exact ⟨rfl, by rw [ptc_no e]⟩
theorem cen_inv {x : Ink} (h : okInk' x = false) : cenR x = (⟨0, 0⟩, 1) := by simp [cenR, h]
theorem cen_st {x : Ink} (h : okInk' x = true) (h3 : (x.Strokes.length : Int) = 0) : cenR x = (⟨0, 0⟩, 6) := by rw [cenR, if_pos h, if_pos h3]
theorem cen_yes {x : Ink} (h : okInk' x = true) (h3 : ¬ (x.Strokes.length : Int) = 0) : cenR x = (⟨nearI (cnI x.Strokes x.Strokes.length).1 (ctI x.Strokes x.Strokes.length), nearI (cnI x.Strokes x.Strokes.length).2 (ctI x.Strokes x.Strokes.length)⟩, 0) := by rw [cenR, if_pos h, if_neg h3]
theorem bxi_inv {x : Ink} (h : okInk' x = false) : bxiR x = (⟨0, 0, 0, 0⟩, 1) := by simp [bxiR, h]
theorem bxi_st {x : Ink} (h : okInk' x = true) (h3 : (x.Strokes.length : Int) = 0) : bxiR x = (⟨0, 0, 0, 0⟩, 6) := by rw [bxiR, if_pos h, if_pos h3]
theorem bxi_yes {x : Ink} (h : okInk' x = true) (h3 : ¬ (x.Strokes.length : Int) = 0) : bxiR x = (inkB x.Strokes x.Strokes.length, 0) := by rw [bxiR, if_pos h, if_neg h3]
theorem ct_len {x : Ink} (ok : okInk' x = true) : ctI x.Strokes x.Strokes.length = 0 ↔ (x.Strokes.length : Int) = 0 := by
  have := ctI_bd ok _ (Nat.le_refl _)
  omega

-- impl.PointCount
theorem PointCount_ok (ik : Ink) : Con Try.prog 112 [.agg [slStroke false ik.Strokes]] true (.tup [I ((ptcR ik).1), I ((ptcR ik).2)]) := by
  refine fn_ok (fn := Try.f112) (nt := 24) Try.func112 rfl rfl rfl rfl (by simp [taggedL, tagged, tagStroke]) fun B hB => ?_
  refine aw_lens (x := .agg [slStroke false ik.Strokes]) 0 rfl (fun len_ik => ?_)
  simp [LenOK, LenL, cPoint, cStroke, fPoint, fStroke, slPoint, slStroke] at len_ik
  refine aw_seq ?_
  refine aw_reg [(0, .new 1)] [1] [1] [.ref 1 0] [some (.box [slStroke false ik.Strokes])] [] (by kernel_rfl) hB trivial ?_
  refine ae_then ?_
  refine aw_seq ?_
  refine aw_seq ?_
  rcases Bool.eq_false_or_eq_true (okInk' ik) with h1 | h1
  ·have hil := okI_len h1
   refine aw_reg [(1, .call [(true, .agg [slStroke false ik.Strokes])] true (Bv true))] [1, 9] [1] [.ref 1 0, Bv false] [some (.box [slStroke false ik.Strokes])] [Con Try.prog 52 [.agg [slStroke false ik.Strokes]] true (Bv true) ∧ ((.agg [slStroke false ik.Strokes] : AV) = .agg [slStroke false ik.Strokes]) ∧ True] (by kernel_rfl) hB ⟨⟨(con_bool h1 (ValidInk_ok ik)), rfl, trivial⟩, trivial⟩ ?_
   refine ae_then ?_
   refine aw_false rfl ?_
   refine aw_skip ?_
   refine ae_then ?_
   refine aw_seq ?_
   refine aw_reg [] [1, 4] [1] [.ref 1 0, I 0] [some (.box [slStroke false ik.Strokes])] [] (by kernel_rfl) hB trivial ?_
   refine ae_then ?_
   refine aw_seq ?_
   refine aw_seq ?_
   refine aw_reg [] [4, 11, 12, 13] [] [I 0, slStroke false ik.Strokes, I (ik.Strokes.length : Int), I 0] [] [] (by kernel_rfl) hB trivial ?_
   refine ae_then ?_
   refine aw_block ?_
   refine aw_loop (fun gn gσ => ∃ (count : Int) (t13 : Int), gn = ((ik.Strokes.length : Int) - t13).toNat ∧ (0 ≤ t13 ∧ t13 ≤ (ik.Strokes.length : Int)) ∧ (count = ctI ik.Strokes t13.toNat) ∧ gσ = mkS [(4, I count), (11, slStroke false ik.Strokes), (12, I (ik.Strokes.length : Int)), (13, I t13)] []) (((ik.Strokes.length : Int) - 0).toNat) ⟨0, 0, rfl, (by omega), (by rfl), rfl⟩ (fun gn gσ hI => ?_)
   obtain ⟨count, t13, rfl, hi0, hs0, rfl⟩ := hI
   refine aw_seq ?_
   by_cases h2 : t13 < (ik.Strokes.length : Int)
   ·have hi : t13.toNat < ik.Strokes.length := by omega
    have hcb := ctI_bd h1 t13.toNat (by omega)
    have hos := okI_all h1 _ hi
    have hol := okS_len hos
    refine aw_reg [(0, .dec true)] [4, 11, 12, 13, 14] [] [I count, slStroke false ik.Strokes, I (ik.Strokes.length : Int), I t13, Bv true] [] [t13 < (ik.Strokes.length : Int)] (by kernel_rfl) hB ⟨h2, trivial⟩ ?_
    refine ae_then ?_
    refine aw_seq ?_
    refine aw_true rfl ?_
    refine aw_skip ?_
    refine ae_then ?_
    refine aw_seq ?_
    refine aw_block ?_
    refine aw_seq ?_
    refine aw_reg [(2, .new 6)] [4, 6, 11, 12, 13] [6] [I count, .ref 6 0, slStroke false ik.Strokes, I (ik.Strokes.length : Int), I t13] [some (.box [slPoint false ((at_ ik.Strokes t13.toNat).Points)])] [(0 : Int) ≤ t13 ∧ t13 < (ik.Strokes.length : Int)] (by kernel_rfl) hB ⟨⟨(by omega), (by omega)⟩, trivial⟩ ?_
    refine ae_then ?_
    refine aw_reg [] [4, 11, 12, 13] [] [I (count + ((((at_ ik.Strokes t13.toNat).Points).length) : Int)), slStroke false ik.Strokes, I (ik.Strokes.length : Int), I t13] [] [inR .i64 (count + ((((at_ ik.Strokes t13.toNat).Points).length) : Int))] (by kernel_rfl) hB ⟨(inR_i64 (by omega) (by omega)), trivial⟩ ?_
    refine ae_block 1 ?_
    refine ae_then ?_
    refine aw_reg [] [4, 11, 12, 13] [] [I (count + ((((at_ ik.Strokes t13.toNat).Points).length) : Int)), slStroke false ik.Strokes, I (ik.Strokes.length : Int), I (t13 + 1)] [] [inR .i64 (t13 + 1)] (by kernel_rfl) hB ⟨(inR_i64 (by omega) (by omega)), trivial⟩ ?_
    exact ae_again _ (by omega) ⟨(count + ((((at_ ik.Strokes t13.toNat).Points).length) : Int)), (t13 + 1), rfl, (by omega), (by rw [ctI_1 hi0.1, ← hs0]), rfl⟩
   ·have hie : t13.toNat = ik.Strokes.length := by omega
    rw [hie] at hs0
    refine aw_reg [(0, .dec false)] [4, 11, 12, 13, 14] [] [I count, slStroke false ik.Strokes, I (ik.Strokes.length : Int), I t13, Bv false] [] [¬ (t13 < (ik.Strokes.length : Int))] (by kernel_rfl) hB ⟨h2, trivial⟩ ?_
    refine ae_then ?_
    refine aw_seq ?_
    refine aw_false rfl ?_
    refine aw_exit ?_
    refine ae_exit_then ?_
    refine ae_exit_then ?_
    refine ae_exit_same ?_
    refine ae_then ?_
    refine aw_seq ?_
    refine aw_reg [] [2, 3] [] [I count, I 0] [] [] (by kernel_rfl) hB trivial ?_
    refine ae_then ?_
    refine aw_ret ?_
    refine ae_ret hB (.tup [I count, I 0]) (by kernel_rfl) (.inl (by first | (simp [ptcR, *]; done) | (rw [hs0] at *; simp [ptcR, *]))) rfl (fun _ => (by simp [tagged, taggedL]))
  ·refine aw_reg [(1, .call [(true, .agg [slStroke false ik.Strokes])] true (Bv false))] [1, 9] [1] [.ref 1 0, Bv true] [some (.box [slStroke false ik.Strokes])] [Con Try.prog 52 [.agg [slStroke false ik.Strokes]] true (Bv false) ∧ ((.agg [slStroke false ik.Strokes] : AV) = .agg [slStroke false ik.Strokes]) ∧ True] (by kernel_rfl) hB ⟨⟨(con_bool h1 (ValidInk_ok ik)), rfl, trivial⟩, trivial⟩ ?_
   refine ae_then ?_
   refine aw_true rfl ?_
   refine aw_seq ?_
   refine aw_reg [] [2, 3] [] [I 0, I 1] [] [] (by kernel_rfl) hB trivial ?_
   refine ae_then ?_
   refine aw_ret ?_
   refine ae_ret_then ?_
   refine ae_ret hB (.tup [I 0, I 1]) (by kernel_rfl) (.inl (by first | (simp [ptcR, *]; done) | (rw [hs0] at *; simp [ptcR, *]))) rfl (fun _ => (by simp [tagged, taggedL]))


-- impl.CenterOf
theorem implCenterOf_ok (ik : Ink) : Con Try.prog 45 [.agg [slStroke false ik.Strokes]] true (.tup [.agg [I (((cenR ik).1).X), I (((cenR ik).1).Y)], I ((cenR ik).2)]) := by
  refine fn_ok (fn := Try.f45) (nt := 55) Try.func45 rfl rfl rfl rfl (by simp [taggedL, tagged, tagStroke]) fun B hB => ?_
  refine aw_lens (x := .agg [slStroke false ik.Strokes]) 0 rfl (fun len_ik => ?_)
  simp [LenOK, LenL, cPoint, cStroke, fPoint, fStroke, slPoint, slStroke] at len_ik
  refine aw_seq ?_
  refine aw_reg [(0, .new 1), (1, .new 2)] [1, 2] [1, 2] [.ref 1 0, .ref 2 0] [some (.box [slStroke false ik.Strokes]), some (.box [I 0, I 0])] [] (by kernel_rfl) hB trivial ?_
  refine ae_then ?_
  refine aw_seq ?_
  refine aw_reg [(1, .call [(true, .agg [slStroke false ik.Strokes])] true (.tup [I ((ptcR ik).1), I ((ptcR ik).2)]))] [1, 2, 4, 5] [1, 2] [.ref 1 0, .ref 2 0, I ((ptcR ik).1), I ((ptcR ik).2)] [some (.box [slStroke false ik.Strokes]), some (.box [I 0, I 0])] [Con Try.prog 112 [.agg [slStroke false ik.Strokes]] true (.tup [I ((ptcR ik).1), I ((ptcR ik).2)]) ∧ ((.agg [slStroke false ik.Strokes] : AV) = .agg [slStroke false ik.Strokes]) ∧ True] (by kernel_rfl) hB ⟨⟨(PointCount_ok ik), rfl, trivial⟩, trivial⟩ ?_
  refine ae_then ?_
  refine aw_seq ?_
  refine aw_seq ?_
  by_cases h1 : ((ptcR ik).2) = 0
  ·have hil := okI_len (ptc_ok h1)
   have hpt := ptc_yes (ptc_ok h1)
   have hpv : (ptcR ik).1 = ctI ik.Strokes ik.Strokes.length := by rw [hpt]
   have hcl := ct_len (ptc_ok h1)
   have hcbd := ctI_bd (ptc_ok h1) _ (Nat.le_refl ik.Strokes.length)
   refine aw_reg [(1, .dec false)] [1, 2, 4, 5, 18] [1, 2] [.ref 1 0, .ref 2 0, I ((ptcR ik).1), I ((ptcR ik).2), Bv false] [some (.box [slStroke false ik.Strokes]), some (.box [I 0, I 0])] [¬ (((ptcR ik).2) ≠ 0)] (by kernel_rfl) hB ⟨(fun hq => hq h1), trivial⟩ ?_
   refine ae_then ?_
   refine aw_false rfl ?_
   refine aw_skip ?_
   refine ae_then ?_
   refine aw_seq ?_
   refine aw_seq ?_
   by_cases h2 : ((ptcR ik).1) = 0
   ·have hst := cen_st (ptc_ok h1) (hcl.1 (by rw [hpt] at h2; exact h2))
    refine aw_reg [(1, .dec true)] [1, 2, 4, 22] [1, 2] [.ref 1 0, .ref 2 0, I ((ptcR ik).1), Bv true] [some (.box [slStroke false ik.Strokes]), some (.box [I 0, I 0])] [((ptcR ik).1) = 0] (by kernel_rfl) hB ⟨h2, trivial⟩ ?_
    refine ae_then ?_
    refine aw_true rfl ?_
    refine aw_seq ?_
    refine aw_reg [] [2, 3] [2] [.ref 2 0, I 6] [some (.box [I 0, I 0])] [] (by kernel_rfl) hB trivial ?_
    refine ae_then ?_
    refine aw_ret ?_
    refine ae_ret_then ?_
    refine ae_ret hB (.tup [.agg [I 0, I 0], I 6]) (by kernel_rfl) (.inl (by first | (rw [hst]; done) | (rw [hst, hs0.1, hs0.2, hpt]; done) | (rw [hst, hs0.1, hs0.2]; done) | (rw [hst, hpb.2]))) rfl (fun _ => (by simp [tagged, taggedL]))
   ·have hnz : ¬ (ik.Strokes.length : Int) = 0 := fun q => h2 (by rw [hpt]; exact hcl.2 q)
    have hst := cen_yes (ptc_ok h1) hnz
    refine aw_reg [(1, .dec false)] [1, 2, 4, 22] [1, 2] [.ref 1 0, .ref 2 0, I ((ptcR ik).1), Bv false] [some (.box [slStroke false ik.Strokes]), some (.box [I 0, I 0])] [¬ (((ptcR ik).1) = 0)] (by kernel_rfl) hB ⟨h2, trivial⟩ ?_
    refine ae_then ?_
    refine aw_false rfl ?_
    refine aw_skip ?_
    refine ae_then ?_
    refine aw_seq ?_
    refine aw_reg [] [1, 2, 4, 6, 7] [1, 2] [.ref 1 0, .ref 2 0, I ((ptcR ik).1), I 0, I 0] [some (.box [slStroke false ik.Strokes]), some (.box [I 0, I 0])] [] (by kernel_rfl) hB trivial ?_
    refine ae_then ?_
    refine aw_seq ?_
    refine aw_seq ?_
    refine aw_reg [] [2, 4, 6, 7, 25, 26, 27] [2] [.ref 2 0, I ((ptcR ik).1), I 0, I 0, slStroke false ik.Strokes, I (ik.Strokes.length : Int), I 0] [some (.box [I 0, I 0])] [] (by kernel_rfl) hB trivial ?_
    refine ae_then ?_
    refine aw_block ?_
    refine aw_loop (fun gn gσ => ∃ (x : Int) (y : Int) (t27 : Int), gn = ((ik.Strokes.length : Int) - t27).toNat ∧ (0 ≤ t27 ∧ t27 ≤ (ik.Strokes.length : Int)) ∧ (x = (cnI ik.Strokes t27.toNat).1 ∧ y = (cnI ik.Strokes t27.toNat).2) ∧ gσ = mkS [(2, .ref 2 0), (4, I ((ptcR ik).1)), (6, I x), (7, I y), (25, slStroke false ik.Strokes), (26, I (ik.Strokes.length : Int)), (27, I t27)] [(2, .box [I 0, I 0])]) (((ik.Strokes.length : Int) - 0).toNat) ⟨0, 0, 0, rfl, (by omega), (by exact ⟨rfl, rfl⟩), rfl⟩ (fun gn gσ hI => ?_)
    obtain ⟨x, y, t27, rfl, hi0, hs0, rfl⟩ := hI
    refine aw_seq ?_
    by_cases h3 : t27 < (ik.Strokes.length : Int)
    ·have hi : t27.toNat < ik.Strokes.length := by omega
     have hos := okI_all (ptc_ok h1) _ hi
     have hol := okS_len hos
     have hbi := cnI_num (ptc_ok h1) t27.toNat (by omega) (by omega)
     refine aw_reg [(0, .dec true)] [2, 4, 6, 7, 25, 26, 27, 28] [2] [.ref 2 0, I ((ptcR ik).1), I x, I y, slStroke false ik.Strokes, I (ik.Strokes.length : Int), I t27, Bv true] [some (.box [I 0, I 0])] [t27 < (ik.Strokes.length : Int)] (by kernel_rfl) hB ⟨h3, trivial⟩ ?_
     refine ae_then ?_
     refine aw_seq ?_
     refine aw_true rfl ?_
     refine aw_skip ?_
     refine ae_then ?_
     refine aw_seq ?_
     refine aw_block ?_
     refine aw_seq ?_
     refine aw_reg [(2, .new 9)] [2, 4, 6, 7, 9, 25, 26, 27] [2, 9] [.ref 2 0, I ((ptcR ik).1), I x, I y, .ref 9 0, slStroke false ik.Strokes, I (ik.Strokes.length : Int), I t27] [some (.box [I 0, I 0]), some (.box [slPoint false ((at_ ik.Strokes t27.toNat).Points)])] [(0 : Int) ≤ t27 ∧ t27 < (ik.Strokes.length : Int)] (by kernel_rfl) hB ⟨⟨(by omega), (by omega)⟩, trivial⟩ ?_
     refine ae_then ?_
     refine aw_seq ?_
     refine aw_reg [] [2, 4, 6, 7, 25, 26, 27, 32, 33, 34] [2] [.ref 2 0, I ((ptcR ik).1), I x, I y, slStroke false ik.Strokes, I (ik.Strokes.length : Int), I t27, slPoint false ((at_ ik.Strokes t27.toNat).Points), I ((((at_ ik.Strokes t27.toNat).Points).length) : Int), I 0] [some (.box [I 0, I 0])] [] (by kernel_rfl) hB trivial ?_
     refine ae_then ?_
     refine aw_block ?_
     refine aw_loop (fun gn gσ => ∃ (x' : Int) (y' : Int) (t34 : Int), gn = (((at_ ik.Strokes t27.toNat).Points.length : Int) - t34).toNat ∧ (0 ≤ t34 ∧ t34 ≤ ((at_ ik.Strokes t27.toNat).Points.length : Int)) ∧ (x' = x + (cnS (at_ ik.Strokes t27.toNat).Points t34.toNat).1 ∧ y' = y + (cnS (at_ ik.Strokes t27.toNat).Points t34.toNat).2) ∧ gσ = mkS [(2, .ref 2 0), (4, I ((ptcR ik).1)), (6, I x'), (7, I y'), (25, slStroke false ik.Strokes), (26, I (ik.Strokes.length : Int)), (27, I t27), (32, slPoint false ((at_ ik.Strokes t27.toNat).Points)), (33, I ((((at_ ik.Strokes t27.toNat).Points).length) : Int)), (34, I t34)] [(2, .box [I 0, I 0])]) ((((at_ ik.Strokes t27.toNat).Points.length : Int) - 0).toNat) ⟨x, y, 0, rfl, (by omega), (by simp [cnS]), rfl⟩ (fun gn gσ hI => ?_)
     obtain ⟨x', y', t34, rfl, hk0, hs1, rfl⟩ := hI
     refine aw_seq ?_
     by_cases h4 : t34 < ((((at_ ik.Strokes t27.toNat).Points).length) : Int)
     ·have hk : t34.toNat < (at_ ik.Strokes t27.toNat).Points.length := by omega
      have hp1 := okP_iff.1 (okS_at hos hk)
      have hbk := cnS_num hos t34.toNat (by omega)
      refine aw_reg [(0, .dec true)] [2, 4, 6, 7, 25, 26, 27, 32, 33, 34, 35] [2] [.ref 2 0, I ((ptcR ik).1), I x', I y', slStroke false ik.Strokes, I (ik.Strokes.length : Int), I t27, slPoint false ((at_ ik.Strokes t27.toNat).Points), I ((((at_ ik.Strokes t27.toNat).Points).length) : Int), I t34, Bv true] [some (.box [I 0, I 0])] [t34 < ((((at_ ik.Strokes t27.toNat).Points).length) : Int)] (by kernel_rfl) hB ⟨h4, trivial⟩ ?_
      refine ae_then ?_
      refine aw_seq ?_
      refine aw_true rfl ?_
      refine aw_skip ?_
      refine ae_then ?_
      refine aw_seq ?_
      refine aw_block ?_
      refine aw_seq ?_
      refine aw_reg [(2, .new 11)] [2, 4, 6, 7, 11, 25, 26, 27, 32, 33, 34] [2, 11] [.ref 2 0, I ((ptcR ik).1), I x', I y', .ref 11 0, slStroke false ik.Strokes, I (ik.Strokes.length : Int), I t27, slPoint false ((at_ ik.Strokes t27.toNat).Points), I ((((at_ ik.Strokes t27.toNat).Points).length) : Int), I t34] [some (.box [I 0, I 0]), some (bxPoint (at_ ((at_ ik.Strokes t27.toNat).Points) t34.toNat))] [(0 : Int) ≤ t34 ∧ t34 < ((((at_ ik.Strokes t27.toNat).Points).length) : Int)] (by kernel_rfl) hB ⟨⟨(by omega), (by omega)⟩, trivial⟩ ?_
      refine ae_then ?_
      refine aw_seq ?_
      refine aw_reg [] [2, 4, 6, 7, 11, 25, 26, 27, 32, 33, 34] [2, 11] [.ref 2 0, I ((ptcR ik).1), I (x' + ((at_ ((at_ ik.Strokes t27.toNat).Points) t34.toNat).X)), I y', .ref 11 0, slStroke false ik.Strokes, I (ik.Strokes.length : Int), I t27, slPoint false ((at_ ik.Strokes t27.toNat).Points), I ((((at_ ik.Strokes t27.toNat).Points).length) : Int), I t34] [some (.box [I 0, I 0]), some (bxPoint (at_ ((at_ ik.Strokes t27.toNat).Points) t34.toNat))] [inR .i64 (x' + ((at_ ((at_ ik.Strokes t27.toNat).Points) t34.toNat).X))] (by kernel_rfl) hB ⟨(inR_i64 (by omega) (by omega)), trivial⟩ ?_
      refine ae_then ?_
      refine aw_reg [] [2, 4, 6, 7, 25, 26, 27, 32, 33, 34] [2] [.ref 2 0, I ((ptcR ik).1), I (x' + ((at_ ((at_ ik.Strokes t27.toNat).Points) t34.toNat).X)), I (y' + ((at_ ((at_ ik.Strokes t27.toNat).Points) t34.toNat).Y)), slStroke false ik.Strokes, I (ik.Strokes.length : Int), I t27, slPoint false ((at_ ik.Strokes t27.toNat).Points), I ((((at_ ik.Strokes t27.toNat).Points).length) : Int), I t34] [some (.box [I 0, I 0])] [inR .i64 (y' + ((at_ ((at_ ik.Strokes t27.toNat).Points) t34.toNat).Y))] (by kernel_rfl) hB ⟨(inR_i64 (by omega) (by omega)), trivial⟩ ?_
      refine ae_block 3 ?_
      refine ae_then ?_
      refine aw_reg [] [2, 4, 6, 7, 25, 26, 27, 32, 33, 34] [2] [.ref 2 0, I ((ptcR ik).1), I (x' + ((at_ ((at_ ik.Strokes t27.toNat).Points) t34.toNat).X)), I (y' + ((at_ ((at_ ik.Strokes t27.toNat).Points) t34.toNat).Y)), slStroke false ik.Strokes, I (ik.Strokes.length : Int), I t27, slPoint false ((at_ ik.Strokes t27.toNat).Points), I ((((at_ ik.Strokes t27.toNat).Points).length) : Int), I (t34 + 1)] [some (.box [I 0, I 0])] [inR .i64 (t34 + 1)] (by kernel_rfl) hB ⟨(inR_i64 (by omega) (by omega)), trivial⟩ ?_
      exact ae_again _ (by omega) ⟨(x' + ((at_ ((at_ ik.Strokes t27.toNat).Points) t34.toNat).X)), (y' + ((at_ ((at_ ik.Strokes t27.toNat).Points) t34.toNat).Y)), (t34 + 1), rfl, (by omega), (by rw [cnS_1 hk0.1]; simp only; omega), rfl⟩
     ·have hke : (at_ ik.Strokes t27.toNat).Points.length = t34.toNat := by omega
      refine aw_reg [(0, .dec false)] [2, 4, 6, 7, 25, 26, 27, 32, 33, 34, 35] [2] [.ref 2 0, I ((ptcR ik).1), I x', I y', slStroke false ik.Strokes, I (ik.Strokes.length : Int), I t27, slPoint false ((at_ ik.Strokes t27.toNat).Points), I ((((at_ ik.Strokes t27.toNat).Points).length) : Int), I t34, Bv false] [some (.box [I 0, I 0])] [¬ (t34 < ((((at_ ik.Strokes t27.toNat).Points).length) : Int))] (by kernel_rfl) hB ⟨h4, trivial⟩ ?_
      refine ae_then ?_
      refine aw_seq ?_
      refine aw_false rfl ?_
      refine aw_exit ?_
      refine ae_exit_then ?_
      refine ae_exit_then ?_
      refine ae_exit_same ?_
      refine ae_block 1 ?_
      refine ae_then ?_
      refine aw_reg [] [2, 4, 6, 7, 25, 26, 27] [2] [.ref 2 0, I ((ptcR ik).1), I x', I y', slStroke false ik.Strokes, I (ik.Strokes.length : Int), I (t27 + 1)] [some (.box [I 0, I 0])] [inR .i64 (t27 + 1)] (by kernel_rfl) hB ⟨(inR_i64 (by omega) (by omega)), trivial⟩ ?_
      exact ae_again _ (by omega) ⟨x', y', (t27 + 1), rfl, (by omega), (by rw [cnI_1 hi0.1, hke]; simp only; omega), rfl⟩
    ·have hie : t27.toNat = ik.Strokes.length := by omega
     rw [hie] at hs0
     have hbi := cnI_num (ptc_ok h1) ik.Strokes.length (Nat.le_refl _) (by omega)
     refine aw_reg [(0, .dec false)] [2, 4, 6, 7, 25, 26, 27, 28] [2] [.ref 2 0, I ((ptcR ik).1), I x, I y, slStroke false ik.Strokes, I (ik.Strokes.length : Int), I t27, Bv false] [some (.box [I 0, I 0])] [¬ (t27 < (ik.Strokes.length : Int))] (by kernel_rfl) hB ⟨h3, trivial⟩ ?_
     refine ae_then ?_
     refine aw_seq ?_
     refine aw_false rfl ?_
     refine aw_exit ?_
     refine ae_exit_then ?_
     refine ae_exit_then ?_
     refine ae_exit_same ?_
     refine ae_then ?_
     refine aw_seq ?_
     refine aw_reg [(2, .call [(true, I x), (true, I ((ptcR ik).1))] true (I (nearI x ((ptcR ik).1)))), (5, .call [(true, I y), (true, I ((ptcR ik).1))] true (I (nearI y ((ptcR ik).1))))] [2, 3] [2] [.ref 2 0, I 0] [some (.box [I (nearI x ((ptcR ik).1)), I (nearI y ((ptcR ik).1))])] [Con Try.prog 102 [I x, I ((ptcR ik).1)] true (I (nearI x ((ptcR ik).1))) ∧ ((I x : AV) = I x) ∧ ((I ((ptcR ik).1) : AV) = I ((ptcR ik).1)) ∧ True, Con Try.prog 102 [I y, I ((ptcR ik).1)] true (I (nearI y ((ptcR ik).1))) ∧ ((I y : AV) = I y) ∧ ((I ((ptcR ik).1) : AV) = I ((ptcR ik).1)) ∧ True] (by kernel_rfl) hB ⟨⟨(nearestDiv_ok x ((ptcR ik).1) (by omega)), rfl, rfl, trivial⟩, ⟨(nearestDiv_ok y ((ptcR ik).1) (by omega)), rfl, rfl, trivial⟩, trivial⟩ ?_
     refine ae_then ?_
     refine aw_ret ?_
     refine ae_ret hB (.tup [.agg [I (nearI x ((ptcR ik).1)), I (nearI y ((ptcR ik).1))], I 0]) (by kernel_rfl) (.inl (by first | (rw [hst]; done) | (rw [hst, hs0.1, hs0.2, hpt]; done) | (rw [hst, hs0.1, hs0.2]; done) | (rw [hst, hpb.2]))) rfl (fun _ => (by simp [tagged, taggedL]))
  ·have hpb := ptc_bad h1
   have hst := cen_inv hpb.1
   refine aw_reg [(1, .dec true)] [1, 2, 4, 5, 18] [1, 2] [.ref 1 0, .ref 2 0, I ((ptcR ik).1), I ((ptcR ik).2), Bv true] [some (.box [slStroke false ik.Strokes]), some (.box [I 0, I 0])] [((ptcR ik).2) ≠ 0] (by kernel_rfl) hB ⟨h1, trivial⟩ ?_
   refine ae_then ?_
   refine aw_true rfl ?_
   refine aw_seq ?_
   refine aw_reg [] [2, 3] [2] [.ref 2 0, I ((ptcR ik).2)] [some (.box [I 0, I 0])] [] (by kernel_rfl) hB trivial ?_
   refine ae_then ?_
   refine aw_ret ?_
   refine ae_ret_then ?_
   refine ae_ret hB (.tup [.agg [I 0, I 0], I ((ptcR ik).2)]) (by kernel_rfl) (.inl (by first | (rw [hst]; done) | (rw [hst, hs0.1, hs0.2, hpt]; done) | (rw [hst, hs0.1, hs0.2]; done) | (rw [hst, hpb.2]))) rfl (fun _ => (by simp [tagged, taggedL]))


-- spec.l02Count
theorem l02Count_ok (ik : Ink) (ok : okInk' ik = true) : Con Try.prog 113 [.ptr false [slStroke false ik.Strokes]] true (I (ctI ik.Strokes ik.Strokes.length)) := by
  have hil := okI_len ok
  refine fn_ok (fn := Try.f113) (nt := 26) Try.func113 rfl rfl rfl rfl (by simp [taggedL, tagged, tagStroke]) fun B hB => ?_
  refine aw_lens (x := .ptr false [slStroke false ik.Strokes]) 0 rfl (fun len_ik => ?_)
  simp [LenOK, LenL, cPoint, cStroke, fPoint, fStroke, slPoint, slStroke] at len_ik
  refine aw_seq ?_
  refine aw_reg [] [0] [] [.ptr false [slStroke false ik.Strokes]] [] [] (by kernel_rfl) hB trivial ?_
  refine ae_then ?_
  refine aw_seq ?_
  refine aw_reg [] [0, 3] [] [.ptr false [slStroke false ik.Strokes], I 0] [] [] (by kernel_rfl) hB trivial ?_
  refine ae_then ?_
  refine aw_seq ?_
  refine aw_seq ?_
  refine aw_reg [] [0, 3, 4] [] [.ptr false [slStroke false ik.Strokes], I 0, I 0] [] [] (by kernel_rfl) hB trivial ?_
  refine ae_then ?_
  refine aw_block ?_
  refine aw_loop (fun gn gσ => ∃ (n : Int) (i : Int), gn = ((ik.Strokes.length : Int) - i).toNat ∧ (0 ≤ i ∧ i ≤ (ik.Strokes.length : Int)) ∧ (n = ctI ik.Strokes i.toNat) ∧ gσ = mkS [(0, .ptr false [slStroke false ik.Strokes]), (3, I n), (4, I i)] []) (((ik.Strokes.length : Int) - 0).toNat) ⟨0, 0, rfl, (by omega), (by rfl), rfl⟩ (fun gn gσ hI => ?_)
  obtain ⟨n, i, rfl, hi0, hs0, rfl⟩ := hI
  refine aw_seq ?_
  refine aw_seq ?_
  by_cases h1 : i < (ik.Strokes.length : Int)
  ·have hi : i.toNat < ik.Strokes.length := by omega
   have hcb := ctI_bd ok i.toNat (by omega)
   have hos := okI_all ok _ hi
   have hol := okS_len hos
   refine aw_reg [(6, .dec true)] [0, 3, 4, 11] [] [.ptr false [slStroke false ik.Strokes], I n, I i, Bv true] [] [i < (ik.Strokes.length : Int)] (by kernel_rfl) hB ⟨h1, trivial⟩ ?_
   refine ae_then ?_
   refine aw_true rfl ?_
   refine aw_skip ?_
   refine ae_then ?_
   refine aw_seq ?_
   refine aw_block ?_
   refine aw_reg [] [0, 3, 4] [] [.ptr false [slStroke false ik.Strokes], I (n + ((((at_ ik.Strokes i.toNat).Points).length) : Int)), I i] [] [(0 : Int) ≤ i ∧ i < (ik.Strokes.length : Int), inR .i64 (n + ((((at_ ik.Strokes i.toNat).Points).length) : Int))] (by kernel_rfl) hB ⟨⟨(by omega), (by omega)⟩, (inR_i64 (by omega) (by omega)), trivial⟩ ?_
   refine ae_block 1 ?_
   refine ae_then ?_
   refine aw_reg [] [0, 3, 4] [] [.ptr false [slStroke false ik.Strokes], I (n + ((((at_ ik.Strokes i.toNat).Points).length) : Int)), I (i + 1)] [] [inR .i64 (i + 1)] (by kernel_rfl) hB ⟨(inR_i64 (by omega) (by omega)), trivial⟩ ?_
   exact ae_again _ (by omega) ⟨(n + ((((at_ ik.Strokes i.toNat).Points).length) : Int)), (i + 1), rfl, (by omega), (by rw [ctI_1 hi0.1, ← hs0]), rfl⟩
  ·have hie : i.toNat = ik.Strokes.length := by omega
   rw [hie] at hs0
   refine aw_reg [(6, .dec false)] [0, 3, 4, 11] [] [.ptr false [slStroke false ik.Strokes], I n, I i, Bv false] [] [¬ (i < (ik.Strokes.length : Int))] (by kernel_rfl) hB ⟨h1, trivial⟩ ?_
   refine ae_then ?_
   refine aw_false rfl ?_
   refine aw_exit ?_
   refine ae_exit_then ?_
   refine ae_exit_then ?_
   refine ae_exit_same ?_
   refine ae_then ?_
   refine aw_seq ?_
   refine aw_reg [] [2] [] [I n] [] [] (by kernel_rfl) hB trivial ?_
   refine ae_then ?_
   refine aw_ret ?_
   refine ae_ret hB (I n) (by kernel_rfl) (.inl (by rw [hs0])) rfl (fun _ => trivial)


-- spec.CenterOf
theorem specCenterOf_ok (ik : Ink) : Con Try.prog 46 [.agg [slStroke false ik.Strokes]] true (.tup [.agg [I (((cenR ik).1).X), I (((cenR ik).1).Y)], I ((cenR ik).2)]) := by
  refine fn_ok (fn := Try.f46) (nt := 59) Try.func46 rfl rfl rfl rfl (by simp [taggedL, tagged, tagStroke]) fun B hB => ?_
  refine aw_lens (x := .agg [slStroke false ik.Strokes]) 0 rfl (fun len_ik => ?_)
  simp [LenOK, LenL, cPoint, cStroke, fPoint, fStroke, slPoint, slStroke] at len_ik
  refine aw_seq ?_
  refine aw_reg [(0, .new 1), (1, .new 2)] [1, 2] [1, 2] [.ref 1 0, .ref 2 0] [some (.box [slStroke false ik.Strokes]), some (.box [I 0, I 0])] [] (by kernel_rfl) hB trivial ?_
  refine ae_then ?_
  refine aw_seq ?_
  refine aw_seq ?_
  rcases Bool.eq_false_or_eq_true (okInk' ik) with h1 | h1
  ·have hil := okI_len h1
   refine aw_reg [(0, .call [(false, .ptr false [slStroke false ik.Strokes])] true (Bv true))] [1, 2, 11] [1, 2] [.ref 1 0, .ref 2 0, Bv false] [some (.box [slStroke false ik.Strokes]), some (.box [I 0, I 0])] [Con Try.prog 56 [.ptr false [slStroke false ik.Strokes]] true (Bv true) ∧ ((false = true → true = true) ∧ AV.idsL [slStroke false ik.Strokes] = [] ∧ ((false = true → false = true) ∧ 1 = 1 ∧ ik.Strokes.length = ik.Strokes.length ∧ ∀ i, i < ik.Strokes.length → (fStroke false ik.Strokes) i = (fStroke false ik.Strokes) i ∨ (AV.idsL ((fStroke false ik.Strokes) i) = [] ∧ leL (fun _ => none) false ((fStroke false ik.Strokes) i) ((fStroke false ik.Strokes) i))) ∧ ([] : List AV) = []) ∧ True] (by kernel_rfl) hB ⟨⟨(con_bool h1 (l02Ok_ok ik)), ⟨(fun h => by cases h), rfl, ⟨⟨(fun h => by cases h), rfl, rfl, fun i _ => .inl rfl⟩, rfl⟩⟩, trivial⟩, trivial⟩ ?_
   refine ae_then ?_
   refine aw_false rfl ?_
   refine aw_skip ?_
   refine ae_then ?_
   refine aw_seq ?_
   refine aw_seq ?_
   by_cases h2 : (ik.Strokes.length : Int) = 0
   ·have hst := cen_st h1 h2
    refine aw_reg [(3, .dec true)] [1, 2, 16] [1, 2] [.ref 1 0, .ref 2 0, Bv true] [some (.box [slStroke false ik.Strokes]), some (.box [I 0, I 0])] [(ik.Strokes.length : Int) = 0] (by kernel_rfl) hB ⟨h2, trivial⟩ ?_
    refine ae_then ?_
    refine aw_true rfl ?_
    refine aw_seq ?_
    refine aw_reg [] [2, 3] [2] [.ref 2 0, I 6] [some (.box [I 0, I 0])] [] (by kernel_rfl) hB trivial ?_
    refine ae_then ?_
    refine aw_ret ?_
    refine ae_ret_then ?_
    refine ae_ret hB (.tup [.agg [I 0, I 0], I 6]) (by kernel_rfl) (.inl (by first | (rw [hst]; done) | (rw [hst, hs0.1, hs0.2]))) rfl (fun _ => (by simp [tagged, taggedL]))
   ·have hst := cen_yes h1 h2
    have hcbd := ctI_bd h1 _ (Nat.le_refl ik.Strokes.length)
    refine aw_reg [(3, .dec false)] [1, 2, 16] [1, 2] [.ref 1 0, .ref 2 0, Bv false] [some (.box [slStroke false ik.Strokes]), some (.box [I 0, I 0])] [¬ ((ik.Strokes.length : Int) = 0)] (by kernel_rfl) hB ⟨h2, trivial⟩ ?_
    refine ae_then ?_
    refine aw_false rfl ?_
    refine aw_skip ?_
    refine ae_then ?_
    refine aw_seq ?_
    refine aw_reg [] [1, 2, 4] [1, 2] [.ref 1 0, .ref 2 0, I 0] [some (.box [slStroke false ik.Strokes]), some (.box [I 0, I 0])] [] (by kernel_rfl) hB trivial ?_
    refine ae_then ?_
    refine aw_seq ?_
    refine aw_reg [] [1, 2, 4, 5] [1, 2] [.ref 1 0, .ref 2 0, I 0, I 0] [some (.box [slStroke false ik.Strokes]), some (.box [I 0, I 0])] [] (by kernel_rfl) hB trivial ?_
    refine ae_then ?_
    refine aw_seq ?_
    refine aw_seq ?_
    refine aw_reg [] [1, 2, 4, 5, 6] [1, 2] [.ref 1 0, .ref 2 0, I 0, I 0, I 0] [some (.box [slStroke false ik.Strokes]), some (.box [I 0, I 0])] [] (by kernel_rfl) hB trivial ?_
    refine ae_then ?_
    refine aw_block ?_
    refine aw_loop (fun gn gσ => ∃ (x : Int) (y : Int) (k : Int), gn = ((ik.Strokes.length : Int) - k).toNat ∧ (0 ≤ k ∧ k ≤ (ik.Strokes.length : Int)) ∧ (x = (cnI ik.Strokes k.toNat).1 ∧ y = (cnI ik.Strokes k.toNat).2) ∧ gσ = mkS [(1, .ref 1 0), (2, .ref 2 0), (4, I x), (5, I y), (6, I k)] [(1, .box [slStroke false ik.Strokes]), (2, .box [I 0, I 0])]) (((ik.Strokes.length : Int) - 0).toNat) ⟨0, 0, 0, rfl, (by omega), (by exact ⟨rfl, rfl⟩), rfl⟩ (fun gn gσ hI => ?_)
    obtain ⟨x, y, k, rfl, hi0, hs0, rfl⟩ := hI
    refine aw_seq ?_
    refine aw_seq ?_
    by_cases h3 : k < (ik.Strokes.length : Int)
    ·have hi : k.toNat < ik.Strokes.length := by omega
     have hos := okI_all h1 _ hi
     have hol := okS_len hos
     have hbi := cnI_num h1 k.toNat (by omega) (by omega)
     refine aw_reg [(4, .dec true)] [1, 2, 4, 5, 6, 22] [1, 2] [.ref 1 0, .ref 2 0, I x, I y, I k, Bv true] [some (.box [slStroke false ik.Strokes]), some (.box [I 0, I 0])] [k < (ik.Strokes.length : Int)] (by kernel_rfl) hB ⟨h3, trivial⟩ ?_
     refine ae_then ?_
     refine aw_true rfl ?_
     refine aw_skip ?_
     refine ae_then ?_
     refine aw_seq ?_
     refine aw_block ?_
     refine aw_seq ?_
     refine aw_reg [] [1, 2, 4, 5, 6, 7] [1, 2] [.ref 1 0, .ref 2 0, I x, I y, I k, slPoint false ((at_ ik.Strokes k.toNat).Points)] [some (.box [slStroke false ik.Strokes]), some (.box [I 0, I 0])] [(0 : Int) ≤ k ∧ k < (ik.Strokes.length : Int)] (by kernel_rfl) hB ⟨⟨(by omega), (by omega)⟩, trivial⟩ ?_
     refine ae_then ?_
     refine aw_seq ?_
     refine aw_reg [] [1, 2, 4, 5, 6, 7, 8] [1, 2] [.ref 1 0, .ref 2 0, I x, I y, I k, slPoint false ((at_ ik.Strokes k.toNat).Points), I 0] [some (.box [slStroke false ik.Strokes]), some (.box [I 0, I 0])] [] (by kernel_rfl) hB trivial ?_
     refine ae_then ?_
     refine aw_block ?_
     refine aw_loop (fun gn gσ => ∃ (x' : Int) (y' : Int) (j : Int), gn = (((at_ ik.Strokes k.toNat).Points.length : Int) - j).toNat ∧ (0 ≤ j ∧ j ≤ ((at_ ik.Strokes k.toNat).Points.length : Int)) ∧ (x' = x + (cnS (at_ ik.Strokes k.toNat).Points j.toNat).1 ∧ y' = y + (cnS (at_ ik.Strokes k.toNat).Points j.toNat).2) ∧ gσ = mkS [(1, .ref 1 0), (2, .ref 2 0), (4, I x'), (5, I y'), (6, I k), (7, slPoint false ((at_ ik.Strokes k.toNat).Points)), (8, I j)] [(1, .box [slStroke false ik.Strokes]), (2, .box [I 0, I 0])]) ((((at_ ik.Strokes k.toNat).Points.length : Int) - 0).toNat) ⟨x, y, 0, rfl, (by omega), (by simp [cnS]), rfl⟩ (fun gn gσ hI => ?_)
     obtain ⟨x', y', j, rfl, hk0, hs1, rfl⟩ := hI
     refine aw_seq ?_
     refine aw_seq ?_
     by_cases h4 : j < ((((at_ ik.Strokes k.toNat).Points).length) : Int)
     ·have hk : j.toNat < (at_ ik.Strokes k.toNat).Points.length := by omega
      have hp1 := okP_iff.1 (okS_at hos hk)
      have hbk := cnS_num hos j.toNat (by omega)
      refine aw_reg [(3, .dec true)] [1, 2, 4, 5, 6, 7, 8, 34] [1, 2] [.ref 1 0, .ref 2 0, I x', I y', I k, slPoint false ((at_ ik.Strokes k.toNat).Points), I j, Bv true] [some (.box [slStroke false ik.Strokes]), some (.box [I 0, I 0])] [j < ((((at_ ik.Strokes k.toNat).Points).length) : Int)] (by kernel_rfl) hB ⟨h4, trivial⟩ ?_
      refine ae_then ?_
      refine aw_true rfl ?_
      refine aw_skip ?_
      refine ae_then ?_
      refine aw_seq ?_
      refine aw_block ?_
      refine aw_seq ?_
      refine aw_reg [] [1, 2, 4, 5, 6, 7, 8] [1, 2] [.ref 1 0, .ref 2 0, I (x' + ((at_ ((at_ ik.Strokes k.toNat).Points) j.toNat).X)), I y', I k, slPoint false ((at_ ik.Strokes k.toNat).Points), I j] [some (.box [slStroke false ik.Strokes]), some (.box [I 0, I 0])] [(0 : Int) ≤ j ∧ j < ((((at_ ik.Strokes k.toNat).Points).length) : Int), inR .i64 (x' + ((at_ ((at_ ik.Strokes k.toNat).Points) j.toNat).X))] (by kernel_rfl) hB ⟨⟨(by omega), (by omega)⟩, (inR_i64 (by omega) (by omega)), trivial⟩ ?_
      refine ae_then ?_
      refine aw_reg [] [1, 2, 4, 5, 6, 7, 8] [1, 2] [.ref 1 0, .ref 2 0, I (x' + ((at_ ((at_ ik.Strokes k.toNat).Points) j.toNat).X)), I (y' + ((at_ ((at_ ik.Strokes k.toNat).Points) j.toNat).Y)), I k, slPoint false ((at_ ik.Strokes k.toNat).Points), I j] [some (.box [slStroke false ik.Strokes]), some (.box [I 0, I 0])] [(0 : Int) ≤ j ∧ j < ((((at_ ik.Strokes k.toNat).Points).length) : Int), inR .i64 (y' + ((at_ ((at_ ik.Strokes k.toNat).Points) j.toNat).Y))] (by kernel_rfl) hB ⟨⟨(by omega), (by omega)⟩, (inR_i64 (by omega) (by omega)), trivial⟩ ?_
      refine ae_block 3 ?_
      refine ae_then ?_
      refine aw_reg [] [1, 2, 4, 5, 6, 7, 8] [1, 2] [.ref 1 0, .ref 2 0, I (x' + ((at_ ((at_ ik.Strokes k.toNat).Points) j.toNat).X)), I (y' + ((at_ ((at_ ik.Strokes k.toNat).Points) j.toNat).Y)), I k, slPoint false ((at_ ik.Strokes k.toNat).Points), I (j + 1)] [some (.box [slStroke false ik.Strokes]), some (.box [I 0, I 0])] [inR .i64 (j + 1)] (by kernel_rfl) hB ⟨(inR_i64 (by omega) (by omega)), trivial⟩ ?_
      exact ae_again _ (by omega) ⟨(x' + ((at_ ((at_ ik.Strokes k.toNat).Points) j.toNat).X)), (y' + ((at_ ((at_ ik.Strokes k.toNat).Points) j.toNat).Y)), (j + 1), rfl, (by omega), (by rw [cnS_1 hk0.1]; simp only; omega), rfl⟩
     ·have hke : (at_ ik.Strokes k.toNat).Points.length = j.toNat := by omega
      refine aw_reg [(3, .dec false)] [1, 2, 4, 5, 6, 7, 8, 34] [1, 2] [.ref 1 0, .ref 2 0, I x', I y', I k, slPoint false ((at_ ik.Strokes k.toNat).Points), I j, Bv false] [some (.box [slStroke false ik.Strokes]), some (.box [I 0, I 0])] [¬ (j < ((((at_ ik.Strokes k.toNat).Points).length) : Int))] (by kernel_rfl) hB ⟨h4, trivial⟩ ?_
      refine ae_then ?_
      refine aw_false rfl ?_
      refine aw_exit ?_
      refine ae_exit_then ?_
      refine ae_exit_then ?_
      refine ae_exit_same ?_
      refine ae_block 1 ?_
      refine ae_then ?_
      refine aw_reg [] [1, 2, 4, 5, 6] [1, 2] [.ref 1 0, .ref 2 0, I x', I y', I (k + 1)] [some (.box [slStroke false ik.Strokes]), some (.box [I 0, I 0])] [inR .i64 (k + 1)] (by kernel_rfl) hB ⟨(inR_i64 (by omega) (by omega)), trivial⟩ ?_
      exact ae_again _ (by omega) ⟨x', y', (k + 1), rfl, (by omega), (by rw [cnI_1 hi0.1, hke]; simp only; omega), rfl⟩
    ·have hie : k.toNat = ik.Strokes.length := by omega
     rw [hie] at hs0
     have hbi := cnI_num h1 ik.Strokes.length (Nat.le_refl _) (by omega)
     refine aw_reg [(4, .dec false)] [1, 2, 4, 5, 6, 22] [1, 2] [.ref 1 0, .ref 2 0, I x, I y, I k, Bv false] [some (.box [slStroke false ik.Strokes]), some (.box [I 0, I 0])] [¬ (k < (ik.Strokes.length : Int))] (by kernel_rfl) hB ⟨h3, trivial⟩ ?_
     refine ae_then ?_
     refine aw_false rfl ?_
     refine aw_exit ?_
     refine ae_exit_then ?_
     refine ae_exit_then ?_
     refine ae_exit_same ?_
     refine ae_then ?_
     refine aw_seq ?_
     refine aw_reg [(0, .call [(false, .ptr false [slStroke false ik.Strokes])] true (I (ctI ik.Strokes ik.Strokes.length)))] [2, 4, 5, 9] [2] [.ref 2 0, I x, I y, I (ctI ik.Strokes ik.Strokes.length)] [some (.box [I 0, I 0])] [Con Try.prog 113 [.ptr false [slStroke false ik.Strokes]] true (I (ctI ik.Strokes ik.Strokes.length)) ∧ ((false = true → true = true) ∧ AV.idsL [slStroke false ik.Strokes] = [] ∧ ((false = true → false = true) ∧ 1 = 1 ∧ ik.Strokes.length = ik.Strokes.length ∧ ∀ i, i < ik.Strokes.length → (fStroke false ik.Strokes) i = (fStroke false ik.Strokes) i ∨ (AV.idsL ((fStroke false ik.Strokes) i) = [] ∧ leL (fun _ => none) false ((fStroke false ik.Strokes) i) ((fStroke false ik.Strokes) i))) ∧ ([] : List AV) = []) ∧ True] (by kernel_rfl) hB ⟨⟨(l02Count_ok ik h1), ⟨(fun h => by cases h), rfl, ⟨⟨(fun h => by cases h), rfl, rfl, fun i _ => .inl rfl⟩, rfl⟩⟩, trivial⟩, trivial⟩ ?_
     refine ae_then ?_
     refine aw_seq ?_
     refine aw_reg [(2, .call [(true, I x), (true, I (ctI ik.Strokes ik.Strokes.length))] true (I (nearI x (ctI ik.Strokes ik.Strokes.length)))), (5, .call [(true, I y), (true, I (ctI ik.Strokes ik.Strokes.length))] true (I (nearI y (ctI ik.Strokes ik.Strokes.length))))] [2, 3] [2] [.ref 2 0, I 0] [some (.box [I (nearI x (ctI ik.Strokes ik.Strokes.length)), I (nearI y (ctI ik.Strokes ik.Strokes.length))])] [Con Try.prog 106 [I x, I (ctI ik.Strokes ik.Strokes.length)] true (I (nearI x (ctI ik.Strokes ik.Strokes.length))) ∧ ((I x : AV) = I x) ∧ ((I (ctI ik.Strokes ik.Strokes.length) : AV) = I (ctI ik.Strokes ik.Strokes.length)) ∧ True, Con Try.prog 106 [I y, I (ctI ik.Strokes ik.Strokes.length)] true (I (nearI y (ctI ik.Strokes ik.Strokes.length))) ∧ ((I y : AV) = I y) ∧ ((I (ctI ik.Strokes ik.Strokes.length) : AV) = I (ctI ik.Strokes ik.Strokes.length)) ∧ True] (by kernel_rfl) hB ⟨⟨(l05Near_ok x (ctI ik.Strokes ik.Strokes.length) (by omega)), rfl, rfl, trivial⟩, ⟨(l05Near_ok y (ctI ik.Strokes ik.Strokes.length) (by omega)), rfl, rfl, trivial⟩, trivial⟩ ?_
     refine ae_then ?_
     refine aw_ret ?_
     refine ae_ret hB (.tup [.agg [I (nearI x (ctI ik.Strokes ik.Strokes.length)), I (nearI y (ctI ik.Strokes ik.Strokes.length))], I 0]) (by kernel_rfl) (.inl (by first | (rw [hst]; done) | (rw [hst, hs0.1, hs0.2]))) rfl (fun _ => (by simp [tagged, taggedL]))
  ·have hst := cen_inv h1
   refine aw_reg [(0, .call [(false, .ptr false [slStroke false ik.Strokes])] true (Bv false))] [1, 2, 11] [1, 2] [.ref 1 0, .ref 2 0, Bv true] [some (.box [slStroke false ik.Strokes]), some (.box [I 0, I 0])] [Con Try.prog 56 [.ptr false [slStroke false ik.Strokes]] true (Bv false) ∧ ((false = true → true = true) ∧ AV.idsL [slStroke false ik.Strokes] = [] ∧ ((false = true → false = true) ∧ 1 = 1 ∧ ik.Strokes.length = ik.Strokes.length ∧ ∀ i, i < ik.Strokes.length → (fStroke false ik.Strokes) i = (fStroke false ik.Strokes) i ∨ (AV.idsL ((fStroke false ik.Strokes) i) = [] ∧ leL (fun _ => none) false ((fStroke false ik.Strokes) i) ((fStroke false ik.Strokes) i))) ∧ ([] : List AV) = []) ∧ True] (by kernel_rfl) hB ⟨⟨(con_bool h1 (l02Ok_ok ik)), ⟨(fun h => by cases h), rfl, ⟨⟨(fun h => by cases h), rfl, rfl, fun i _ => .inl rfl⟩, rfl⟩⟩, trivial⟩, trivial⟩ ?_
   refine ae_then ?_
   refine aw_true rfl ?_
   refine aw_seq ?_
   refine aw_reg [] [2, 3] [2] [.ref 2 0, I 1] [some (.box [I 0, I 0])] [] (by kernel_rfl) hB trivial ?_
   refine ae_then ?_
   refine aw_ret ?_
   refine ae_ret_then ?_
   refine ae_ret hB (.tup [.agg [I 0, I 0], I 1]) (by kernel_rfl) (.inl (by first | (rw [hst]; done) | (rw [hst, hs0.1, hs0.2]))) rfl (fun _ => (by simp [tagged, taggedL]))


-- spec.l02SameStroke
theorem l02SameStroke_ok (a : Stroke) (b : Stroke) : Con Try.prog 168 [.ptr false [slPoint false a.Points], .ptr false [slPoint false b.Points]] true (Bv (sameS a b)) := by
  refine fn_ok (fn := Try.f168) (nt := 41) Try.func168 rfl rfl rfl rfl (by simp [taggedL, tagged, tagPoint]) fun B hB => ?_
  refine aw_lens (x := .ptr false [slPoint false a.Points]) 0 rfl (fun len_a => ?_)
  simp [LenOK, LenL, cPoint, fPoint, slPoint] at len_a
  refine aw_lens (x := .ptr false [slPoint false b.Points]) 1 rfl (fun len_b => ?_)
  simp [LenOK, LenL, cPoint, fPoint, slPoint] at len_b
  refine aw_seq ?_
  refine aw_reg [] [0, 1] [] [.ptr false [slPoint false a.Points], .ptr false [slPoint false b.Points]] [] [] (by kernel_rfl) hB trivial ?_
  refine ae_then ?_
  refine aw_seq ?_
  refine aw_seq ?_
  by_cases h1 : (a.Points.length : Int) = (b.Points.length : Int)
  ·have hlen : a.Points.length = b.Points.length := by omega
   refine aw_reg [(10, .dec false)] [0, 1, 16] [] [.ptr false [slPoint false a.Points], .ptr false [slPoint false b.Points], Bv false] [] [¬ ((a.Points.length : Int) ≠ (b.Points.length : Int))] (by kernel_rfl) hB ⟨(fun hq => hq h1), trivial⟩ ?_
   refine ae_then ?_
   refine aw_false rfl ?_
   refine aw_skip ?_
   refine ae_then ?_
   refine aw_seq ?_
   refine aw_seq ?_
   refine aw_reg [] [0, 1, 5] [] [.ptr false [slPoint false a.Points], .ptr false [slPoint false b.Points], I 0] [] [] (by kernel_rfl) hB trivial ?_
   refine ae_then ?_
   refine aw_block ?_
   refine aw_loop (fun gn gσ => ∃ (i : Int), gn = ((a.Points.length : Int) - i).toNat ∧ (0 ≤ i ∧ i ≤ (a.Points.length : Int)) ∧ (∀ j : Nat, (j : Int) < i → decide (at_ a.Points j = at_ b.Points j) = true) ∧ gσ = mkS [(0, .ptr false [slPoint false a.Points]), (1, .ptr false [slPoint false b.Points]), (5, I i)] []) (((a.Points.length : Int) - 0).toNat) ⟨0, rfl, (by omega), (by intro j hj; omega), rfl⟩ (fun gn gσ hI => ?_)
   obtain ⟨i, rfl, hi0, hall0, rfl⟩ := hI
   refine aw_seq ?_
   refine aw_seq ?_
   by_cases h2 : i < (a.Points.length : Int)
   ·have hi : i.toNat < a.Points.length := by omega
    refine aw_reg [(6, .dec true)] [0, 1, 5, 23] [] [.ptr false [slPoint false a.Points], .ptr false [slPoint false b.Points], I i, Bv true] [] [i < (a.Points.length : Int)] (by kernel_rfl) hB ⟨h2, trivial⟩ ?_
    refine ae_then ?_
    refine aw_true rfl ?_
    refine aw_skip ?_
    refine ae_then ?_
    refine aw_seq ?_
    refine aw_block ?_
    refine aw_seq ?_
    by_cases h3 : ((at_ a.Points i.toNat).X) = ((at_ b.Points i.toNat).X) ∧ ((at_ a.Points i.toNat).Y) = ((at_ b.Points i.toNat).Y) ∧ ((at_ a.Points i.toNat).T) = ((at_ b.Points i.toNat).T) ∧ True
    ·have hok : decide (at_ a.Points i.toNat = at_ b.Points i.toNat) = true := decide_eq_true (pt_ext h3.1 h3.2.1 h3.2.2.1)
     refine aw_reg [(14, .dec false)] [0, 1, 5, 40] [] [.ptr false [slPoint false a.Points], .ptr false [slPoint false b.Points], I i, Bv false] [] [(0 : Int) ≤ i ∧ i < (a.Points.length : Int), (0 : Int) ≤ i ∧ i < (b.Points.length : Int), ¬ (¬ (((at_ a.Points i.toNat).X) = ((at_ b.Points i.toNat).X) ∧ ((at_ a.Points i.toNat).Y) = ((at_ b.Points i.toNat).Y) ∧ ((at_ a.Points i.toNat).T) = ((at_ b.Points i.toNat).T) ∧ True))] (by kernel_rfl) hB ⟨⟨(by omega), (by omega)⟩, ⟨(by omega), (by omega)⟩, (fun hq => hq h3), trivial⟩ ?_
     refine ae_then ?_
     refine aw_false rfl ?_
     refine aw_skip ?_
     refine ae_block 1 ?_
     refine ae_then ?_
     refine aw_reg [] [0, 1, 5] [] [.ptr false [slPoint false a.Points], .ptr false [slPoint false b.Points], I (i + 1)] [] [inR .i64 (i + 1)] (by kernel_rfl) hB ⟨(inR_i64 (by omega) (by omega)), trivial⟩ ?_
     exact ae_again _ (by omega) ⟨(i + 1), rfl, (by omega), (by intro j hj; by_cases ej : j = i.toNat; (subst ej; first | assumption | exact hok); exact hall0 j (by omega)), rfl⟩
    ·have hall : allN a.Points.length (fun j => decide (at_ a.Points j = at_ b.Points j)) = false := allN_not hi (decide_eq_false (fun e => h3 ⟨by rw [e], by rw [e], by rw [e], trivial⟩))
     refine aw_reg [(14, .dec true)] [0, 1, 5, 40] [] [.ptr false [slPoint false a.Points], .ptr false [slPoint false b.Points], I i, Bv true] [] [(0 : Int) ≤ i ∧ i < (a.Points.length : Int), (0 : Int) ≤ i ∧ i < (b.Points.length : Int), ¬ (((at_ a.Points i.toNat).X) = ((at_ b.Points i.toNat).X) ∧ ((at_ a.Points i.toNat).Y) = ((at_ b.Points i.toNat).Y) ∧ ((at_ a.Points i.toNat).T) = ((at_ b.Points i.toNat).T) ∧ True)] (by kernel_rfl) hB ⟨⟨(by omega), (by omega)⟩, ⟨(by omega), (by omega)⟩, h3, trivial⟩ ?_
     refine ae_then ?_
     refine aw_true rfl ?_
     refine aw_seq ?_
     refine aw_reg [] [4] [] [Bv false] [] [] (by kernel_rfl) hB trivial ?_
     refine ae_then ?_
     refine aw_ret ?_
     refine ae_ret_block (ae_ret_then (ae_ret_then (ae_ret_block (ae_ret_then ?_))))
     refine ae_ret hB (Bv false) (by kernel_rfl) (.inl (by first | (simp [sameS, sameL, hlen]; done) | (unfold sameS sameL; rw [hall]; simp [hlen]))) rfl (fun _ => trivial)
   ·have hall : allN a.Points.length (fun j => decide (at_ a.Points j = at_ b.Points j)) = true := allN_at (fun j hj => hall0 j (by omega))
    refine aw_reg [(6, .dec false)] [0, 1, 5, 23] [] [.ptr false [slPoint false a.Points], .ptr false [slPoint false b.Points], I i, Bv false] [] [¬ (i < (a.Points.length : Int))] (by kernel_rfl) hB ⟨h2, trivial⟩ ?_
    refine ae_then ?_
    refine aw_false rfl ?_
    refine aw_exit ?_
    refine ae_exit_then ?_
    refine ae_exit_then ?_
    refine ae_exit_same ?_
    refine ae_then ?_
    refine aw_seq ?_
    refine aw_reg [] [4] [] [Bv true] [] [] (by kernel_rfl) hB trivial ?_
    refine ae_then ?_
    refine aw_ret ?_
    refine ae_ret hB (Bv true) (by kernel_rfl) (.inl (by first | (simp [sameS, sameL, hlen]; done) | (unfold sameS sameL; rw [hall]; simp [hlen]))) rfl (fun _ => trivial)
  ·have hlen : ¬ a.Points.length = b.Points.length := by omega
   refine aw_reg [(10, .dec true)] [0, 1, 16] [] [.ptr false [slPoint false a.Points], .ptr false [slPoint false b.Points], Bv true] [] [(a.Points.length : Int) ≠ (b.Points.length : Int)] (by kernel_rfl) hB ⟨h1, trivial⟩ ?_
   refine ae_then ?_
   refine aw_true rfl ?_
   refine aw_seq ?_
   refine aw_reg [] [4] [] [Bv false] [] [] (by kernel_rfl) hB trivial ?_
   refine ae_then ?_
   refine aw_ret ?_
   refine ae_ret_then ?_
   refine ae_ret hB (Bv false) (by kernel_rfl) (.inl (by first | (simp [sameS, sameL, hlen]; done) | (unfold sameS sameL; rw [hall]; simp [hlen]))) rfl (fun _ => trivial)


-- spec.l02Same
theorem l02Same_ok (a : Ink) (b : Ink) : Con Try.prog 114 [.ptr false [slStroke false a.Strokes], .ptr false [slStroke false b.Strokes]] true (Bv (sameI a b)) := by
  refine fn_ok (fn := Try.f114) (nt := 40) Try.func114 rfl rfl rfl rfl (by simp [taggedL, tagged, tagStroke]) fun B hB => ?_
  refine aw_lens (x := .ptr false [slStroke false a.Strokes]) 0 rfl (fun len_a => ?_)
  simp [LenOK, LenL, cPoint, cStroke, fPoint, fStroke, slPoint, slStroke] at len_a
  refine aw_lens (x := .ptr false [slStroke false b.Strokes]) 1 rfl (fun len_b => ?_)
  simp [LenOK, LenL, cPoint, cStroke, fPoint, fStroke, slPoint, slStroke] at len_b
  refine aw_seq ?_
  refine aw_reg [] [0, 1] [] [.ptr false [slStroke false a.Strokes], .ptr false [slStroke false b.Strokes]] [] [] (by kernel_rfl) hB trivial ?_
  refine ae_then ?_
  refine aw_seq ?_
  refine aw_seq ?_
  by_cases h1 : (a.Strokes.length : Int) = (b.Strokes.length : Int)
  ·have hlen : a.Strokes.length = b.Strokes.length := by omega
   refine aw_reg [(10, .dec false)] [0, 1, 16] [] [.ptr false [slStroke false a.Strokes], .ptr false [slStroke false b.Strokes], Bv false] [] [¬ ((a.Strokes.length : Int) ≠ (b.Strokes.length : Int))] (by kernel_rfl) hB ⟨(fun hq => hq h1), trivial⟩ ?_
   refine ae_then ?_
   refine aw_false rfl ?_
   refine aw_skip ?_
   refine ae_then ?_
   refine aw_seq ?_
   refine aw_seq ?_
   refine aw_reg [] [0, 1, 5] [] [.ptr false [slStroke false a.Strokes], .ptr false [slStroke false b.Strokes], I 0] [] [] (by kernel_rfl) hB trivial ?_
   refine ae_then ?_
   refine aw_block ?_
   refine aw_loop (fun gn gσ => ∃ (i : Int), gn = ((a.Strokes.length : Int) - i).toNat ∧ (0 ≤ i ∧ i ≤ (a.Strokes.length : Int)) ∧ (∀ j : Nat, (j : Int) < i → sameS (at_ a.Strokes j) (at_ b.Strokes j) = true) ∧ gσ = mkS [(0, .ptr false [slStroke false a.Strokes]), (1, .ptr false [slStroke false b.Strokes]), (5, I i)] []) (((a.Strokes.length : Int) - 0).toNat) ⟨0, rfl, (by omega), (by intro j hj; omega), rfl⟩ (fun gn gσ hI => ?_)
   obtain ⟨i, rfl, hi0, hall0, rfl⟩ := hI
   refine aw_seq ?_
   refine aw_seq ?_
   by_cases h2 : i < (a.Strokes.length : Int)
   ·have hi : i.toNat < a.Strokes.length := by omega
    have hi2 : i.toNat < b.Strokes.length := by omega
    refine aw_reg [(6, .dec true)] [0, 1, 5, 23] [] [.ptr false [slStroke false a.Strokes], .ptr false [slStroke false b.Strokes], I i, Bv true] [] [i < (a.Strokes.length : Int)] (by kernel_rfl) hB ⟨h2, trivial⟩ ?_
    refine ae_then ?_
    refine aw_true rfl ?_
    refine aw_skip ?_
    refine ae_then ?_
    refine aw_seq ?_
    refine aw_block ?_
    refine aw_seq ?_
    rcases Bool.eq_false_or_eq_true (sameS (at_ a.Strokes i.toNat) (at_ b.Strokes i.toNat)) with h3 | h3
    ·have hok : sameS (at_ a.Strokes i.toNat) (at_ b.Strokes i.toNat) = true := h3
     refine aw_reg [(12, .call [(true, .ptr false [slPoint false ((at_ a.Strokes i.toNat).Points)]), (true, .ptr false [slPoint false ((at_ b.Strokes i.toNat).Points)])] true (Bv true))] [0, 1, 5, 39] [] [.ptr false [slStroke false a.Strokes], .ptr false [slStroke false b.Strokes], I i, Bv false] [] [(0 : Int) ≤ i ∧ i < (a.Strokes.length : Int), (0 : Int) ≤ i ∧ i < (b.Strokes.length : Int), Con Try.prog 168 [.ptr false [slPoint false ((at_ a.Strokes i.toNat).Points)], .ptr false [slPoint false ((at_ b.Strokes i.toNat).Points)]] true (Bv true) ∧ ((.ptr false [slPoint false ((at_ a.Strokes i.toNat).Points)] : AV) = .ptr false [slPoint false ((at_ a.Strokes i.toNat).Points)]) ∧ ((.ptr false [slPoint false ((at_ b.Strokes i.toNat).Points)] : AV) = .ptr false [slPoint false ((at_ b.Strokes i.toNat).Points)]) ∧ True] (by kernel_rfl) hB ⟨⟨(by omega), (by omega)⟩, ⟨(by omega), (by omega)⟩, ⟨(con_bool h3 (l02SameStroke_ok (at_ a.Strokes i.toNat) (at_ b.Strokes i.toNat))), rfl, rfl, trivial⟩, trivial⟩ ?_
     refine ae_then ?_
     refine aw_false rfl ?_
     refine aw_skip ?_
     refine ae_block 1 ?_
     refine ae_then ?_
     refine aw_reg [] [0, 1, 5] [] [.ptr false [slStroke false a.Strokes], .ptr false [slStroke false b.Strokes], I (i + 1)] [] [inR .i64 (i + 1)] (by kernel_rfl) hB ⟨(inR_i64 (by omega) (by omega)), trivial⟩ ?_
     exact ae_again _ (by omega) ⟨(i + 1), rfl, (by omega), (by intro j hj; by_cases ej : j = i.toNat; (subst ej; first | assumption | exact hok); exact hall0 j (by omega)), rfl⟩
    ·have hall : allN a.Strokes.length (fun j => sameS (at_ a.Strokes j) (at_ b.Strokes j)) = false := allN_not hi (by simpa using h3)
     refine aw_reg [(12, .call [(true, .ptr false [slPoint false ((at_ a.Strokes i.toNat).Points)]), (true, .ptr false [slPoint false ((at_ b.Strokes i.toNat).Points)])] true (Bv false))] [0, 1, 5, 39] [] [.ptr false [slStroke false a.Strokes], .ptr false [slStroke false b.Strokes], I i, Bv true] [] [(0 : Int) ≤ i ∧ i < (a.Strokes.length : Int), (0 : Int) ≤ i ∧ i < (b.Strokes.length : Int), Con Try.prog 168 [.ptr false [slPoint false ((at_ a.Strokes i.toNat).Points)], .ptr false [slPoint false ((at_ b.Strokes i.toNat).Points)]] true (Bv false) ∧ ((.ptr false [slPoint false ((at_ a.Strokes i.toNat).Points)] : AV) = .ptr false [slPoint false ((at_ a.Strokes i.toNat).Points)]) ∧ ((.ptr false [slPoint false ((at_ b.Strokes i.toNat).Points)] : AV) = .ptr false [slPoint false ((at_ b.Strokes i.toNat).Points)]) ∧ True] (by kernel_rfl) hB ⟨⟨(by omega), (by omega)⟩, ⟨(by omega), (by omega)⟩, ⟨(con_bool h3 (l02SameStroke_ok (at_ a.Strokes i.toNat) (at_ b.Strokes i.toNat))), rfl, rfl, trivial⟩, trivial⟩ ?_
     refine ae_then ?_
     refine aw_true rfl ?_
     refine aw_seq ?_
     refine aw_reg [] [4] [] [Bv false] [] [] (by kernel_rfl) hB trivial ?_
     refine ae_then ?_
     refine aw_ret ?_
     refine ae_ret_block (ae_ret_then (ae_ret_then (ae_ret_block (ae_ret_then ?_))))
     refine ae_ret hB (Bv false) (by kernel_rfl) (.inl (by first | (simp [sameI, hlen]; done) | (unfold sameI; rw [hall]; simp [hlen]))) rfl (fun _ => trivial)
   ·have hall : allN a.Strokes.length (fun j => sameS (at_ a.Strokes j) (at_ b.Strokes j)) = true := allN_at (fun j hj => hall0 j (by omega))
    refine aw_reg [(6, .dec false)] [0, 1, 5, 23] [] [.ptr false [slStroke false a.Strokes], .ptr false [slStroke false b.Strokes], I i, Bv false] [] [¬ (i < (a.Strokes.length : Int))] (by kernel_rfl) hB ⟨h2, trivial⟩ ?_
    refine ae_then ?_
    refine aw_false rfl ?_
    refine aw_exit ?_
    refine ae_exit_then ?_
    refine ae_exit_then ?_
    refine ae_exit_same ?_
    refine ae_then ?_
    refine aw_seq ?_
    refine aw_reg [] [4] [] [Bv true] [] [] (by kernel_rfl) hB trivial ?_
    refine ae_then ?_
    refine aw_ret ?_
    refine ae_ret hB (Bv true) (by kernel_rfl) (.inl (by first | (simp [sameI, hlen]; done) | (unfold sameI; rw [hall]; simp [hlen]))) rfl (fun _ => trivial)
  ·have hlen : ¬ a.Strokes.length = b.Strokes.length := by omega
   refine aw_reg [(10, .dec true)] [0, 1, 16] [] [.ptr false [slStroke false a.Strokes], .ptr false [slStroke false b.Strokes], Bv true] [] [(a.Strokes.length : Int) ≠ (b.Strokes.length : Int)] (by kernel_rfl) hB ⟨h1, trivial⟩ ?_
   refine ae_then ?_
   refine aw_true rfl ?_
   refine aw_seq ?_
   refine aw_reg [] [4] [] [Bv false] [] [] (by kernel_rfl) hB trivial ?_
   refine ae_then ?_
   refine aw_ret ?_
   refine ae_ret_then ?_
   refine ae_ret hB (Bv false) (by kernel_rfl) (.inl (by first | (simp [sameI, hlen]; done) | (unfold sameI; rw [hall]; simp [hlen]))) rfl (fun _ => trivial)


-- spec.SameInk
theorem specSameInk_ok (a : Ink) (b : Ink) : Con Try.prog 47 [.agg [slStroke false a.Strokes], .agg [slStroke false b.Strokes]] true (Bv (sameI a b)) := by
  refine fn_ok (fn := Try.f47) (nt := 6) Try.func47 rfl rfl rfl rfl (by simp [taggedL, tagged, tagStroke]) fun B hB => ?_
  refine aw_lens (x := .agg [slStroke false a.Strokes]) 0 rfl (fun len_a => ?_)
  simp [LenOK, LenL, cPoint, cStroke, fPoint, fStroke, slPoint, slStroke] at len_a
  refine aw_lens (x := .agg [slStroke false b.Strokes]) 1 rfl (fun len_b => ?_)
  simp [LenOK, LenL, cPoint, cStroke, fPoint, fStroke, slPoint, slStroke] at len_b
  refine aw_seq ?_
  refine aw_reg [(0, .new 2), (1, .new 3)] [2, 3] [2, 3] [.ref 2 0, .ref 3 0] [some (.box [slStroke false a.Strokes]), some (.box [slStroke false b.Strokes])] [] (by kernel_rfl) hB trivial ?_
  refine ae_then ?_
  refine aw_seq ?_
  refine aw_reg [(0, .call [(false, .ptr false [slStroke false a.Strokes]), (false, .ptr false [slStroke false b.Strokes])] true (Bv (sameI a b)))] [4] [] [Bv (sameI a b)] [] [Con Try.prog 114 [.ptr false [slStroke false a.Strokes], .ptr false [slStroke false b.Strokes]] true (Bv (sameI a b)) ∧ ((false = true → true = true) ∧ AV.idsL [slStroke false a.Strokes] = [] ∧ ((false = true → false = true) ∧ 1 = 1 ∧ a.Strokes.length = a.Strokes.length ∧ ∀ i, i < a.Strokes.length → (fStroke false a.Strokes) i = (fStroke false a.Strokes) i ∨ (AV.idsL ((fStroke false a.Strokes) i) = [] ∧ leL (fun _ => none) false ((fStroke false a.Strokes) i) ((fStroke false a.Strokes) i))) ∧ ([] : List AV) = []) ∧ ((false = true → true = true) ∧ AV.idsL [slStroke false b.Strokes] = [] ∧ ((false = true → false = true) ∧ 1 = 1 ∧ b.Strokes.length = b.Strokes.length ∧ ∀ i, i < b.Strokes.length → (fStroke false b.Strokes) i = (fStroke false b.Strokes) i ∨ (AV.idsL ((fStroke false b.Strokes) i) = [] ∧ leL (fun _ => none) false ((fStroke false b.Strokes) i) ((fStroke false b.Strokes) i))) ∧ ([] : List AV) = []) ∧ True] (by kernel_rfl) hB ⟨⟨(l02Same_ok a b), ⟨(fun h => by cases h), rfl, ⟨⟨(fun h => by cases h), rfl, rfl, fun i _ => .inl rfl⟩, rfl⟩⟩, ⟨(fun h => by cases h), rfl, ⟨⟨(fun h => by cases h), rfl, rfl, fun i _ => .inl rfl⟩, rfl⟩⟩, trivial⟩, trivial⟩ ?_
  refine ae_then ?_
  refine aw_ret ?_
  refine ae_ret hB (Bv (sameI a b)) (by kernel_rfl) (.inl rfl) rfl (fun _ => trivial)


-- impl.BoxOfInk
theorem implBoxOfInk_ok (ik : Ink) : Con Try.prog 48 [.agg [slStroke false ik.Strokes]] true (.tup [agBox ((bxiR ik).1), I ((bxiR ik).2)]) := by
  refine fn_ok (fn := Try.f48) (nt := 15) Try.func48 rfl rfl rfl rfl (by simp [taggedL, tagged, tagStroke]) fun B hB => ?_
  refine aw_lens (x := .agg [slStroke false ik.Strokes]) 0 rfl (fun len_ik => ?_)
  simp [LenOK, LenL, cPoint, cStroke, fPoint, fStroke, slPoint, slStroke] at len_ik
  refine aw_seq ?_
  refine aw_reg [(0, .new 1), (1, .new 2)] [1, 2] [1, 2] [.ref 1 0, .ref 2 0] [some (.box [slStroke false ik.Strokes]), some (.box [I 0, I 0, I 0, I 0])] [] (by kernel_rfl) hB trivial ?_
  refine ae_then ?_
  refine aw_seq ?_
  refine aw_seq ?_
  rcases Bool.eq_false_or_eq_true (okInk' ik) with h1 | h1
  ·refine aw_reg [(1, .call [(true, .agg [slStroke false ik.Strokes])] true (Bv true))] [1, 2, 6] [1, 2] [.ref 1 0, .ref 2 0, Bv false] [some (.box [slStroke false ik.Strokes]), some (.box [I 0, I 0, I 0, I 0])] [Con Try.prog 52 [.agg [slStroke false ik.Strokes]] true (Bv true) ∧ ((.agg [slStroke false ik.Strokes] : AV) = .agg [slStroke false ik.Strokes]) ∧ True] (by kernel_rfl) hB ⟨⟨(con_bool h1 (ValidInk_ok ik)), rfl, trivial⟩, trivial⟩ ?_
   refine ae_then ?_
   refine aw_false rfl ?_
   refine aw_skip ?_
   refine ae_then ?_
   refine aw_seq ?_
   refine aw_seq ?_
   by_cases h2 : (ik.Strokes.length : Int) = 0
   ·have hst := bxi_st h1 h2
    refine aw_reg [(3, .dec true)] [1, 2, 11] [1, 2] [.ref 1 0, .ref 2 0, Bv true] [some (.box [slStroke false ik.Strokes]), some (.box [I 0, I 0, I 0, I 0])] [(ik.Strokes.length : Int) = 0] (by kernel_rfl) hB ⟨h2, trivial⟩ ?_
    refine ae_then ?_
    refine aw_true rfl ?_
    refine aw_seq ?_
    refine aw_reg [] [2, 3] [2] [.ref 2 0, I 6] [some (.box [I 0, I 0, I 0, I 0])] [] (by kernel_rfl) hB trivial ?_
    refine ae_then ?_
    refine aw_ret ?_
    refine ae_ret_then ?_
    refine ae_ret hB (.tup [.agg [I 0, I 0, I 0, I 0], I 6]) (by kernel_rfl) (.inl (by rw [hst])) rfl (fun _ => (by simp [tagged, taggedL]))
   ·have hst := bxi_yes h1 h2
    refine aw_reg [(3, .dec false)] [1, 2, 11] [1, 2] [.ref 1 0, .ref 2 0, Bv false] [some (.box [slStroke false ik.Strokes]), some (.box [I 0, I 0, I 0, I 0])] [¬ ((ik.Strokes.length : Int) = 0)] (by kernel_rfl) hB ⟨h2, trivial⟩ ?_
    refine ae_then ?_
    refine aw_false rfl ?_
    refine aw_skip ?_
    refine ae_then ?_
    refine aw_seq ?_
    refine aw_reg [(1, .call [(true, .agg [slStroke false ik.Strokes])] true (agBox (inkB ik.Strokes ik.Strokes.length)))] [2, 3] [2] [.ref 2 0, I 0] [some (bxBox (inkB ik.Strokes ik.Strokes.length))] [Con Try.prog 54 [.agg [slStroke false ik.Strokes]] true (agBox (inkB ik.Strokes ik.Strokes.length)) ∧ ((.agg [slStroke false ik.Strokes] : AV) = .agg [slStroke false ik.Strokes]) ∧ True] (by kernel_rfl) hB ⟨⟨(boxOfInk_ok ik h1 (by omega)), rfl, trivial⟩, trivial⟩ ?_
    refine ae_then ?_
    refine aw_ret ?_
    refine ae_ret hB (.tup [agBox (inkB ik.Strokes ik.Strokes.length), I 0]) (by kernel_rfl) (.inl (by rw [hst])) rfl (fun _ => (by simp [tagged, taggedL]))
  ·have hst := bxi_inv h1
   refine aw_reg [(1, .call [(true, .agg [slStroke false ik.Strokes])] true (Bv false))] [1, 2, 6] [1, 2] [.ref 1 0, .ref 2 0, Bv true] [some (.box [slStroke false ik.Strokes]), some (.box [I 0, I 0, I 0, I 0])] [Con Try.prog 52 [.agg [slStroke false ik.Strokes]] true (Bv false) ∧ ((.agg [slStroke false ik.Strokes] : AV) = .agg [slStroke false ik.Strokes]) ∧ True] (by kernel_rfl) hB ⟨⟨(con_bool h1 (ValidInk_ok ik)), rfl, trivial⟩, trivial⟩ ?_
   refine ae_then ?_
   refine aw_true rfl ?_
   refine aw_seq ?_
   refine aw_reg [] [2, 3] [2] [.ref 2 0, I 1] [some (.box [I 0, I 0, I 0, I 0])] [] (by kernel_rfl) hB trivial ?_
   refine ae_then ?_
   refine aw_ret ?_
   refine ae_ret_then ?_
   refine ae_ret hB (.tup [.agg [I 0, I 0, I 0, I 0], I 1]) (by kernel_rfl) (.inl (by rw [hst])) rfl (fun _ => (by simp [tagged, taggedL]))


section
variable {f : Point → Point}
theorem mpS_okP {s : Stroke} (ok : okStroke' s = true) (hp : ∀ j, j < s.Points.length → okP (f (at_ s.Points j)) = true) (hT : ∀ p, (f p).T = p.T) : okStroke' (mpS f s) = true := by
  have hl := okS_len ok
  simp only [okStroke', Bool.and_eq_true, decide_eq_true_eq, mpS_len]
  refine ⟨hl, allN_iff.2 fun j hj => ?_⟩
  unfold okPt
  rw [mpS_at hj, hp j hj, Bool.true_and]
  by_cases h0 : j = 0
  · simp [h0]
  · have h := okS_T ok hj (by omega)
    rw [mpS_at (by omega), hT, hT, decide_eq_true h, Bool.or_true]
theorem mpI_ok {x : Ink} (ok : okInk' x = true) (hp : ∀ i, i < x.Strokes.length → ∀ j, j < (at_ x.Strokes i).Points.length → okP (f (at_ (at_ x.Strokes i).Points j)) = true) (hT : ∀ p, (f p).T = p.T) : okInk' (mpI f x) = true := by
  have hl := okI_len ok
  have ha := ok
  simp only [okInk', Bool.and_eq_true, decide_eq_true_eq] at ha
  simp only [okInk', Bool.and_eq_true, decide_eq_true_eq, mpI_len]
  refine ⟨hl, allN_iff.2 fun i hi => ?_⟩
  have h1 := allN_get ha.2 hi
  have ho := okSA_ok h1
  have hs := okS_len ho
  unfold okSA at h1 ⊢
  rw [mpI_at hi, mpS_okP ho (hp i hi) hT, Bool.true_and]
  rw [Bool.and_eq_true] at h1
  by_cases h0 : i = 0
  · simp [h0]
  · have h2 := h1.2
    rw [decide_eq_false h0, Bool.false_or, decide_eq_true_eq] at h2 ⊢
    have ho2 := okS_len (okI_all ok (i - 1) (by omega))
    rw [mpI_at (by omega), mpS_at (by omega), hT]
    unfold lastT at h2 ⊢
    rw [mpS_len, mpS_at (by omega), hT]; exact h2
variable {fx fy : Int → Int}
def mapB (fx fy : Int → Int) (b : Box) : Box := ⟨fx b.X1, fy b.Y1, fx b.X2, fy b.Y2⟩
theorem map_join (hx : ∀ a b, a ≤ b → fx a ≤ fx b) (hy : ∀ a b, a ≤ b → fy a ≤ fy b) (a b : Box) : joinB (mapB fx fy a) (mapB fx fy b) = mapB fx fy (joinB a b) := by
  have mn : ∀ {g : Int → Int}, (∀ a b, a ≤ b → g a ≤ g b) → ∀ a b, min (g a) (g b) = g (min a b) := fun hg a b => by
    rcases Int.le_total a b with h | h
    · rw [Int.min_eq_left h, Int.min_eq_left (hg _ _ h)]
    · rw [Int.min_eq_right h, Int.min_eq_right (hg _ _ h)]
  have mx : ∀ {g : Int → Int}, (∀ a b, a ≤ b → g a ≤ g b) → ∀ a b, max (g a) (g b) = g (max a b) := fun hg a b => by
    rcases Int.le_total a b with h | h
    · rw [Int.max_eq_right h, Int.max_eq_right (hg _ _ h)]
    · rw [Int.max_eq_left h, Int.max_eq_left (hg _ _ h)]
  simp only [joinB, mapB, mn hx, mn hy, mx hx, mx hy]
theorem mpS_box (hf : ∀ p, f p = ⟨fx p.X, fy p.Y, p.T⟩) (hx : ∀ a b, a ≤ b → fx a ≤ fx b) (hy : ∀ a b, a ≤ b → fy a ≤ fy b) {s : Stroke} (h1 : 1 ≤ s.Points.length) : ∀ k, k ≤ s.Points.length → boxS (mpS f s).Points k = mapB fx fy (boxS s.Points k)
  | 0, _ => by rw [boxS, boxS, mpS_at (by omega), hf]; rfl
  | k + 1, h => by
    rw [boxS, boxS, mpS_box hf hx hy h1 k (by omega), mpS_at (by omega), hf, ← map_join hx hy]; rfl
theorem mpI_box (hf : ∀ p, f p = ⟨fx p.X, fy p.Y, p.T⟩) (hx : ∀ a b, a ≤ b → fx a ≤ fx b) (hy : ∀ a b, a ≤ b → fy a ≤ fy b) {x : Ink} (ok : okInk' x = true) (h0 : 1 ≤ x.Strokes.length) : ∀ k, k ≤ x.Strokes.length → inkB (mpI f x).Strokes k = mapB fx fy (inkB x.Strokes k)
  | 0, _ => by
    have := okS_len (okI_all ok 0 (by omega))
    rw [inkB, inkB, mpI_at (by omega), strB, mpS_len, mpS_box hf hx hy (by omega) _ (Nat.le_refl _)]; rfl
  | k + 1, h => by
    have := okS_len (okI_all ok k (by omega))
    rw [inkB, inkB, mpI_box hf hx hy ok h0 k (by omega), mpI_at (by omega), strB, mpS_len, mpS_box hf hx hy (by omega) _ (Nat.le_refl _), map_join hx hy]; rfl
end
theorem pt_box {x : Ink} {i j : Nat} (hi : i < x.Strokes.length) (hj : j < (at_ x.Strokes i).Points.length) : ((inkB x.Strokes x.Strokes.length).X1 ≤ (at_ (at_ x.Strokes i).Points j).X ∧ (at_ (at_ x.Strokes i).Points j).X ≤ (inkB x.Strokes x.Strokes.length).X2) ∧ (inkB x.Strokes x.Strokes.length).Y1 ≤ (at_ (at_ x.Strokes i).Points j).Y ∧ (at_ (at_ x.Strokes i).Points j).Y ≤ (inkB x.Strokes x.Strokes.length).Y2 := by
  have h1 := inkB_has x.Strokes _ i hi
  have h2 := box_has (at_ x.Strokes i).Points _ j hj
  unfold inBox strB at h1; omega
/-- What is known of ink that is fitted. -/
theorem fit_facts {x : Ink} {n : Int} (h : (fitR x n).2 = 0) : okInk' (fitA x n) = true ∧ fitA (fitA x n) n = fitA x n ∧ ((fitA x n).Strokes.length = x.Strokes.length) ∧
    (((inkB x.Strokes x.Strokes.length).X1 = (inkB x.Strokes x.Strokes.length).X2 ∧ (inkB x.Strokes x.Strokes.length).Y1 = (inkB x.Strokes x.Strokes.length).Y2) ∨
      max ((inkB (fitA x n).Strokes x.Strokes.length).X2 - (inkB (fitA x n).Strokes x.Strokes.length).X1) ((inkB (fitA x n).Strokes x.Strokes.length).Y2 - (inkB (fitA x n).Strokes x.Strokes.length).Y1) = n) := by
  obtain ⟨ok, hn, h0, _⟩ := fitR_ok h
  have hn' := inB_iff.1 hn
  have hB := inkB_ok ok (by omega) x.Strokes.length (Nat.le_refl _)
  have hs := side_bd hB
  have hlen : (fitA x n).Strokes.length = x.Strokes.length := mpI_len _ _
  generalize hb : inkB x.Strokes x.Strokes.length = b at *
  have hd : 0 < sideB b := by omega
  have hf : ∀ p, fitP b (sideB b) n p = ⟨(fun z => nearI ((z - b.X1) * n) (sideB b)) p.X, (fun z => nearI ((z - b.Y1) * n) (sideB b)) p.Y, p.T⟩ := fun p => rfl
  have hx : ∀ u v, u ≤ v → (fun z => nearI ((z - b.X1) * n) (sideB b)) u ≤ (fun z => nearI ((z - b.X1) * n) (sideB b)) v := fun u v huv => near_mono hd (Int.mul_le_mul_of_nonneg_right (by omega) (by omega))
  have hy : ∀ u v, u ≤ v → (fun z => nearI ((z - b.Y1) * n) (sideB b)) u ≤ (fun z => nearI ((z - b.Y1) * n) (sideB b)) v := fun u v huv => near_mono hd (Int.mul_le_mul_of_nonneg_right (by omega) (by omega))
  have hA : fitA x n = mpI (fitP b (sideB b) n) x := by unfold fitA; rw [hb]
  have hbox : inkB (fitA x n).Strokes x.Strokes.length = mapB (fun z => nearI ((z - b.X1) * n) (sideB b)) (fun z => nearI ((z - b.Y1) * n) (sideB b)) b := by
    rw [hA, mpI_box hf hx hy ok (by omega) _ (Nat.le_refl _), hb]
  have hrng : ∀ z, 0 ≤ z → z ≤ sideB b → 0 ≤ nearI (z * n) (sideB b) ∧ nearI (z * n) (sideB b) ≤ n := fun z h1 h2 => by
    rw [Int.mul_comm]; exact (near_between hd h1 h2).1 (by omega)
  have hpt : ∀ i, i < x.Strokes.length → ∀ j, j < (at_ x.Strokes i).Points.length → okP (fitP b (sideB b) n (at_ (at_ x.Strokes i).Points j)) = true := fun i hi j hj => by
    have hp := pt_box hi hj
    rw [hb] at hp
    have h1 := hrng _ (by omega : 0 ≤ (at_ (at_ x.Strokes i).Points j).X - b.X1) (by omega)
    have h2 := hrng _ (by omega : 0 ≤ (at_ (at_ x.Strokes i).Points j).Y - b.Y1) (by omega)
    have h3 := okP_iff.1 (okS_at (okI_all ok i hi) hj)
    rw [okP_iff]
    simp only [fitP]; omega
  have hok : okInk' (fitA x n) = true := by rw [hA]; exact mpI_ok ok hpt (fun p => rfl)
  have hz : nearI ((b.X1 - b.X1) * n) (sideB b) = 0 := by rw [Int.sub_self, Int.zero_mul]; have := near_zero (x := 0) hd; rwa [Int.mul_zero] at this
  have hz2 : nearI ((b.Y1 - b.Y1) * n) (sideB b) = 0 := by rw [Int.sub_self, Int.zero_mul]; have := near_zero (x := 0) hd; rwa [Int.mul_zero] at this
  have hw := hrng (b.X2 - b.X1) (by unfold okBox at hB; omega) hs.2.1
  have hh := hrng (b.Y2 - b.Y1) (by unfold okBox at hB; omega) hs.2.2
  -- the second time
  have key : ∀ d', (∀ i, i < x.Strokes.length → ∀ j, j < (at_ x.Strokes i).Points.length → fitP ⟨0, 0, (mapB (fun z => nearI ((z - b.X1) * n) (sideB b)) (fun z => nearI ((z - b.Y1) * n) (sideB b)) b).X2, (mapB (fun z => nearI ((z - b.X1) * n) (sideB b)) (fun z => nearI ((z - b.Y1) * n) (sideB b)) b).Y2⟩ d' n (fitP b (sideB b) n (at_ (at_ x.Strokes i).Points j)) = fitP b (sideB b) n (at_ (at_ x.Strokes i).Points j)) →
      sideB (mapB (fun z => nearI ((z - b.X1) * n) (sideB b)) (fun z => nearI ((z - b.Y1) * n) (sideB b)) b) = d' → fitA (fitA x n) n = fitA x n := fun d' h1 h2 => by
    have hAA : ∀ y : Ink, fitA y n = mpI (fitP (inkB y.Strokes y.Strokes.length) (sideB (inkB y.Strokes y.Strokes.length)) n) y := fun y => rfl
    rw [hAA (fitA x n), hlen, hbox, h2]
    have e : mapB (fun z => nearI ((z - b.X1) * n) (sideB b)) (fun z => nearI ((z - b.Y1) * n) (sideB b)) b = ⟨0, 0, (mapB (fun z => nearI ((z - b.X1) * n) (sideB b)) (fun z => nearI ((z - b.Y1) * n) (sideB b)) b).X2, (mapB (fun z => nearI ((z - b.X1) * n) (sideB b)) (fun z => nearI ((z - b.Y1) * n) (sideB b)) b).Y2⟩ := by
      simp only [mapB, hz, hz2]
    rw [e, hA]
    unfold mpI
    simp only [List.map_map, Ink.mk.injEq]
    refine List.map_congr_left fun s hs => ?_
    obtain ⟨i, hi, es⟩ := List.getElem_of_mem hs
    unfold mpS
    simp only [Function.comp, List.map_map, Stroke.mk.injEq]
    refine List.map_congr_left fun p hp => ?_
    obtain ⟨j, hj, ep⟩ := List.getElem_of_mem hp
    have hat : at_ x.Strokes i = s := by rw [at_eq hi]; exact es
    have := h1 i hi j (by rw [hat]; exact hj)
    rw [hat, at_eq hj, ep] at this
    exact this
  refine ⟨hok, ?_, hlen, ?_⟩
  · by_cases hdeg : b.X1 = b.X2 ∧ b.Y1 = b.Y2
    · refine key 1 (fun i hi j hj => ?_) ?_
      · have hp := pt_box hi hj
        rw [hb] at hp
        have e1 : (at_ (at_ x.Strokes i).Points j).X - b.X1 = 0 := by omega
        have e2 : (at_ (at_ x.Strokes i).Points j).Y - b.Y1 = 0 := by omega
        have hz1 : nearI (0 * n) (sideB b) = 0 := by rw [Int.zero_mul]; have := near_zero (x := 0) hd; rwa [Int.mul_zero] at this
        have hz3 : nearI (0 * n) 1 = 0 := by rw [Int.zero_mul]; decide
        simp only [fitP, e1, e2, hz1, Int.sub_zero, hz3]
      · have e1 : b.X2 - b.X1 = 0 := by omega
        have e2 : b.Y2 - b.Y1 = 0 := by omega
        have hz1 : nearI (0 * n) (sideB b) = 0 := by rw [Int.zero_mul]; have := near_zero (x := 0) hd; rwa [Int.mul_zero] at this
        simp only [sideB, mapB, e1, e2]
        simp only [sideB, e1, e2] at hz hz2 hz1
        rw [hz, hz2, hz1]
        decide
    · have hside : sideB (mapB (fun z => nearI ((z - b.X1) * n) (sideB b)) (fun z => nearI ((z - b.Y1) * n) (sideB b)) b) = n := by
        have hmax : sideB b = b.X2 - b.X1 ∨ sideB b = b.Y2 - b.Y1 := by unfold okBox at hB; unfold sideB; omega
        have hfull : nearI (sideB b * n) (sideB b) = n := by rw [Int.mul_comm]; exact near_full hd
        rcases hmax with e | e
        · have e2 : nearI ((b.X2 - b.X1) * n) (sideB b) = n := by rw [← e]; exact hfull
          show max 1 (max (nearI ((b.X2 - b.X1) * n) (sideB b) - nearI ((b.X1 - b.X1) * n) (sideB b)) (nearI ((b.Y2 - b.Y1) * n) (sideB b) - nearI ((b.Y1 - b.Y1) * n) (sideB b))) = n
          rw [hz, hz2, e2]; omega
        · have e2 : nearI ((b.Y2 - b.Y1) * n) (sideB b) = n := by rw [← e]; exact hfull
          show max 1 (max (nearI ((b.X2 - b.X1) * n) (sideB b) - nearI ((b.X1 - b.X1) * n) (sideB b)) (nearI ((b.Y2 - b.Y1) * n) (sideB b) - nearI ((b.Y1 - b.Y1) * n) (sideB b))) = n
          rw [hz, hz2, e2]; omega
      refine key n (fun i hi j hj => ?_) hside
      simp only [fitP, Int.sub_zero, near_full (show 0 < n by omega)]
  · by_cases hdeg : b.X1 = b.X2 ∧ b.Y1 = b.Y2
    · exact .inl hdeg
    · right
      rw [hbox]
      have hmax : sideB b = b.X2 - b.X1 ∨ sideB b = b.Y2 - b.Y1 := by unfold okBox at hB; unfold sideB; omega
      have hfull : nearI (sideB b * n) (sideB b) = n := by rw [Int.mul_comm]; exact near_full hd
      show max (nearI ((b.X2 - b.X1) * n) (sideB b) - nearI ((b.X1 - b.X1) * n) (sideB b)) (nearI ((b.Y2 - b.Y1) * n) (sideB b) - nearI ((b.Y1 - b.Y1) * n) (sideB b)) = n
      rw [hz, hz2]
      rcases hmax with e | e
      · have e2 : nearI ((b.X2 - b.X1) * n) (sideB b) = n := by rw [← e]; exact hfull
        rw [e2]; omega
      · have e2 : nearI ((b.Y2 - b.Y1) * n) (sideB b) = n := by rw [← e]; exact hfull
        rw [e2]; omega
theorem cen_in {x : Ink} (ok : okInk' x = true) (h0 : ¬ (x.Strokes.length : Int) = 0) : (bxiR x).2 = 0 ∧ (bxiR x).1 = inkB x.Strokes x.Strokes.length ∧ (inkB x.Strokes x.Strokes.length).X1 ≤ (cenR x).1.X ∧ (cenR x).1.X ≤ (inkB x.Strokes x.Strokes.length).X2 := by
  have hb := cnI_bd (x := x) (fun j hj => inkB_has x.Strokes _ j hj) _ (Nat.le_refl _)
  have hc := ctI_bd ok _ (Nat.le_refl _)
  have e : cenR x = (⟨nearI (cnI x.Strokes x.Strokes.length).1 (ctI x.Strokes x.Strokes.length), nearI (cnI x.Strokes x.Strokes.length).2 (ctI x.Strokes x.Strokes.length)⟩, 0) := by rw [cenR, if_pos ok, if_neg h0]
  have e2 : bxiR x = (inkB x.Strokes x.Strokes.length, 0) := by rw [bxiR, if_pos ok, if_neg h0]
  rw [e, e2]
  exact ⟨rfl, rfl, near_mean (by omega) hb.1.1 hb.1.2⟩
theorem base_in {x : Ink} (ok : okInk' x = true) (h0 : ¬ (x.Strokes.length : Int) = 0) : (inkB x.Strokes x.Strokes.length).Y1 ≤ (ovR (fun b => b.Y2) x).1 ∧ (ovR (fun b => b.Y2) x).1 ≤ (inkB x.Strokes x.Strokes.length).Y2 := by
  rw [ovR_yes ok h0]
  have hm := medI_mem (xs := x.Strokes.map fun s => (strB s).Y2) (by simp; omega)
  obtain ⟨s, hs, e⟩ := List.mem_map.1 hm
  obtain ⟨j, hj, es⟩ := List.getElem_of_mem hs
  have hat : at_ x.Strokes j = s := by rw [at_eq hj]; exact es
  have h1 := inkB_has x.Strokes _ j hj
  have h2 := boxS_all (okI_all ok j hj)
  rw [hat] at h1 h2
  unfold inBox at h1
  show _ ≤ medI _ ∧ medI _ ≤ _
  rw [← e]
  have h3 : (strB s).Y1 ≤ (strB s).Y2 := h2.2.2.1
  omega

-- laws.FnFittedInk
theorem fnFittedInk_con (code : List Int) (ok_code : ∀ y ∈ code, inR .u8 y) : Con Try.prog 6 [slU8 false code] true (Bv true) := by
  refine fn_ok (fn := Try.f6) (nt := 202) Try.func6 rfl rfl rfl rfl (by simp [taggedL, tagged, tagU8]) fun B hB => ?_
  refine aw_lens (x := slU8 false code) 0 rfl (fun len_code => ?_)
  simp [LenOK, LenL, cU8, fU8, slU8] at len_code
  refine aw_seq ?_
  refine aw_reg [] [0] [] [slU8 false code] [] [] (by kernel_rfl) hB trivial ?_
  refine ae_then ?_
  refine aw_seq ?_
  refine aw_seq ?_
  rcases Bool.eq_false_or_eq_true (decide (4096 < (code.length : Int))) with h1 | h1
  ·refine aw_reg [(1, .call [(true, slU8 false code)] true (Bv true))] [0, 28] [] [slU8 false code, Bv true] [] [Con Try.prog 7 [slU8 false code] true (Bv true) ∧ ((slU8 false code : AV) = slU8 false code) ∧ True] (by kernel_rfl) hB ⟨⟨(con_bool h1 (f6big_ok code)), rfl, trivial⟩, trivial⟩ ?_
   refine ae_then ?_
   refine aw_true rfl ?_
   refine aw_seq ?_
   refine aw_reg [] [2] [] [Bv true] [] [] (by kernel_rfl) hB trivial ?_
   refine ae_then ?_
   refine aw_ret ?_
   refine ae_ret_then ?_
   refine ae_ret hB (Bv true) (by kernel_rfl) (.inl rfl) rfl (fun _ => trivial)
  ·have hc : (∀ j, j < code.length → 0 ≤ at_ code j ∧ at_ code j ≤ 255) ∧ code.length ≤ 4611686018427387904 := ⟨fun j hj => ok_code _ (at_mem hj), by first | omega | (simp at h1; omega)⟩
   refine aw_reg [(1, .call [(true, slU8 false code)] true (Bv false))] [0, 28] [] [slU8 false code, Bv false] [] [Con Try.prog 7 [slU8 false code] true (Bv false) ∧ ((slU8 false code : AV) = slU8 false code) ∧ True] (by kernel_rfl) hB ⟨⟨(con_bool h1 (f6big_ok code)), rfl, trivial⟩, trivial⟩ ?_
   refine ae_then ?_
   refine aw_false rfl ?_
   refine aw_skip ?_
   refine ae_then ?_
   refine aw_seq ?_
   obtain ⟨x_1, side_1, hx1_0, hc1⟩ := DrawFitInk_ok code (by assumption)
   refine aw_reg [(1, .call [(true, slU8 false code)] true (.tup [.agg [slStroke true x_1.Strokes], I side_1])), (5, .new 3)] [3, 4] [3] [.ref 3 0, I side_1] [some (.box [slStroke true x_1.Strokes])] [Con Try.prog 38 [slU8 false code] true (.tup [.agg [slStroke true x_1.Strokes], I side_1]) ∧ ((slU8 false code : AV) = slU8 false code) ∧ True] (by kernel_rfl) hB ⟨⟨hc1, rfl, trivial⟩, trivial⟩ ?_
   refine ae_then ?_
   refine aw_seq ?_
   obtain ⟨v_2, c_2, hx2_0, hx2_1, hc2⟩ := implFitInk_ok x_1 side_1
   refine aw_reg [(2, .call [(false, .agg [slStroke false x_1.Strokes]), (true, I side_1)] true (.tup [.agg [slStroke true v_2.Strokes], I c_2])), (6, .new 5)] [3, 4, 5, 6] [3, 5] [.ref 3 0, I side_1, .ref 5 0, I c_2] [some (.box [slStroke true x_1.Strokes]), some (.box [slStroke true v_2.Strokes])] [Con Try.prog 39 [.agg [slStroke false x_1.Strokes], I side_1] true (.tup [.agg [slStroke true v_2.Strokes], I c_2]) ∧ (((false = true → true = true) ∧ 1 = 1 ∧ x_1.Strokes.length = x_1.Strokes.length ∧ ∀ i, i < x_1.Strokes.length → (fStroke true x_1.Strokes) i = (fStroke false x_1.Strokes) i ∨ (AV.idsL ((fStroke false x_1.Strokes) i) = [] ∧ leL (fun _ => none) false ((fStroke true x_1.Strokes) i) ((fStroke false x_1.Strokes) i))) ∧ ([] : List AV) = []) ∧ ((I side_1 : AV) = I side_1) ∧ True] (by kernel_rfl) hB ⟨⟨hc2, ⟨⟨(fun h => by cases h), rfl, rfl, fun i _ => .inr ⟨idsStroke _ _, leStroke _ _ _⟩⟩, rfl⟩, rfl, trivial⟩, trivial⟩ ?_
   refine ae_then ?_
   refine aw_seq ?_
   obtain ⟨v_3, c_3, hx3_0, hx3_1, hc3⟩ := specFitInk_ok x_1 side_1
   refine aw_reg [(2, .call [(false, .agg [slStroke false x_1.Strokes]), (true, I side_1)] true (.tup [.agg [slStroke true v_3.Strokes], I c_3])), (6, .new 7)] [3, 4, 5, 6, 7, 8] [3, 5, 7] [.ref 3 0, I side_1, .ref 5 0, I c_2, .ref 7 0, I c_3] [some (.box [slStroke true x_1.Strokes]), some (.box [slStroke true v_2.Strokes]), some (.box [slStroke true v_3.Strokes])] [Con Try.prog 40 [.agg [slStroke false x_1.Strokes], I side_1] true (.tup [.agg [slStroke true v_3.Strokes], I c_3]) ∧ (((false = true → true = true) ∧ 1 = 1 ∧ x_1.Strokes.length = x_1.Strokes.length ∧ ∀ i, i < x_1.Strokes.length → (fStroke true x_1.Strokes) i = (fStroke false x_1.Strokes) i ∨ (AV.idsL ((fStroke false x_1.Strokes) i) = [] ∧ leL (fun _ => none) false ((fStroke true x_1.Strokes) i) ((fStroke false x_1.Strokes) i))) ∧ ([] : List AV) = []) ∧ ((I side_1 : AV) = I side_1) ∧ True] (by kernel_rfl) hB ⟨⟨hc3, ⟨⟨(fun h => by cases h), rfl, rfl, fun i _ => .inr ⟨idsStroke _ _, leStroke _ _ _⟩⟩, rfl⟩, rfl, trivial⟩, trivial⟩ ?_
   refine ae_then ?_
   refine aw_seq ?_
   obtain ⟨v_4, c_4, hx4_0, hx4_1, hc4⟩ := implBaseLineOf_ok x_1
   refine aw_reg [(1, .call [(false, .agg [slStroke false x_1.Strokes])] true (.tup [I v_4, I c_4]))] [3, 4, 5, 6, 7, 8, 9, 10] [3, 5, 7] [.ref 3 0, I side_1, .ref 5 0, I c_2, .ref 7 0, I c_3, I v_4, I c_4] [some (.box [slStroke true x_1.Strokes]), some (.box [slStroke true v_2.Strokes]), some (.box [slStroke true v_3.Strokes])] [Con Try.prog 41 [.agg [slStroke false x_1.Strokes]] true (.tup [I v_4, I c_4]) ∧ (((false = true → true = true) ∧ 1 = 1 ∧ x_1.Strokes.length = x_1.Strokes.length ∧ ∀ i, i < x_1.Strokes.length → (fStroke true x_1.Strokes) i = (fStroke false x_1.Strokes) i ∨ (AV.idsL ((fStroke false x_1.Strokes) i) = [] ∧ leL (fun _ => none) false ((fStroke true x_1.Strokes) i) ((fStroke false x_1.Strokes) i))) ∧ ([] : List AV) = []) ∧ True] (by kernel_rfl) hB ⟨⟨hc4, ⟨⟨(fun h => by cases h), rfl, rfl, fun i _ => .inr ⟨idsStroke _ _, leStroke _ _ _⟩⟩, rfl⟩, trivial⟩, trivial⟩ ?_
   refine ae_then ?_
   refine aw_seq ?_
   obtain ⟨v_5, c_5, hx5_0, hx5_1, hc5⟩ := specBaseLineOf_ok x_1
   refine aw_reg [(1, .call [(false, .agg [slStroke false x_1.Strokes])] true (.tup [I v_5, I c_5]))] [3, 4, 5, 6, 7, 8, 9, 10, 11, 12] [3, 5, 7] [.ref 3 0, I side_1, .ref 5 0, I c_2, .ref 7 0, I c_3, I v_4, I c_4, I v_5, I c_5] [some (.box [slStroke true x_1.Strokes]), some (.box [slStroke true v_2.Strokes]), some (.box [slStroke true v_3.Strokes])] [Con Try.prog 42 [.agg [slStroke false x_1.Strokes]] true (.tup [I v_5, I c_5]) ∧ (((false = true → true = true) ∧ 1 = 1 ∧ x_1.Strokes.length = x_1.Strokes.length ∧ ∀ i, i < x_1.Strokes.length → (fStroke true x_1.Strokes) i = (fStroke false x_1.Strokes) i ∨ (AV.idsL ((fStroke false x_1.Strokes) i) = [] ∧ leL (fun _ => none) false ((fStroke true x_1.Strokes) i) ((fStroke false x_1.Strokes) i))) ∧ ([] : List AV) = []) ∧ True] (by kernel_rfl) hB ⟨⟨hc5, ⟨⟨(fun h => by cases h), rfl, rfl, fun i _ => .inr ⟨idsStroke _ _, leStroke _ _ _⟩⟩, rfl⟩, trivial⟩, trivial⟩ ?_
   refine ae_then ?_
   refine aw_seq ?_
   obtain ⟨v_6, c_6, hx6_0, hx6_1, hc6⟩ := implMiddleHeight_ok x_1
   refine aw_reg [(1, .call [(false, .agg [slStroke false x_1.Strokes])] true (.tup [I v_6, I c_6]))] [3, 4, 5, 6, 7, 8, 9, 10, 11, 12, 13, 14] [3, 5, 7] [.ref 3 0, I side_1, .ref 5 0, I c_2, .ref 7 0, I c_3, I v_4, I c_4, I v_5, I c_5, I v_6, I c_6] [some (.box [slStroke true x_1.Strokes]), some (.box [slStroke true v_2.Strokes]), some (.box [slStroke true v_3.Strokes])] [Con Try.prog 43 [.agg [slStroke false x_1.Strokes]] true (.tup [I v_6, I c_6]) ∧ (((false = true → true = true) ∧ 1 = 1 ∧ x_1.Strokes.length = x_1.Strokes.length ∧ ∀ i, i < x_1.Strokes.length → (fStroke true x_1.Strokes) i = (fStroke false x_1.Strokes) i ∨ (AV.idsL ((fStroke false x_1.Strokes) i) = [] ∧ leL (fun _ => none) false ((fStroke true x_1.Strokes) i) ((fStroke false x_1.Strokes) i))) ∧ ([] : List AV) = []) ∧ True] (by kernel_rfl) hB ⟨⟨hc6, ⟨⟨(fun h => by cases h), rfl, rfl, fun i _ => .inr ⟨idsStroke _ _, leStroke _ _ _⟩⟩, rfl⟩, trivial⟩, trivial⟩ ?_
   refine ae_then ?_
   refine aw_seq ?_
   obtain ⟨v_7, c_7, hx7_0, hx7_1, hc7⟩ := specMiddleHeight_ok x_1
   refine aw_reg [(1, .call [(false, .agg [slStroke false x_1.Strokes])] true (.tup [I v_7, I c_7]))] [3, 4, 5, 6, 7, 8, 9, 10, 11, 12, 13, 14, 15, 16] [3, 5, 7] [.ref 3 0, I side_1, .ref 5 0, I c_2, .ref 7 0, I c_3, I v_4, I c_4, I v_5, I c_5, I v_6, I c_6, I v_7, I c_7] [some (.box [slStroke true x_1.Strokes]), some (.box [slStroke true v_2.Strokes]), some (.box [slStroke true v_3.Strokes])] [Con Try.prog 44 [.agg [slStroke false x_1.Strokes]] true (.tup [I v_7, I c_7]) ∧ (((false = true → true = true) ∧ 1 = 1 ∧ x_1.Strokes.length = x_1.Strokes.length ∧ ∀ i, i < x_1.Strokes.length → (fStroke true x_1.Strokes) i = (fStroke false x_1.Strokes) i ∨ (AV.idsL ((fStroke false x_1.Strokes) i) = [] ∧ leL (fun _ => none) false ((fStroke true x_1.Strokes) i) ((fStroke false x_1.Strokes) i))) ∧ ([] : List AV) = []) ∧ True] (by kernel_rfl) hB ⟨⟨hc7, ⟨⟨(fun h => by cases h), rfl, rfl, fun i _ => .inr ⟨idsStroke _ _, leStroke _ _ _⟩⟩, rfl⟩, trivial⟩, trivial⟩ ?_
   refine ae_then ?_
   refine aw_seq ?_
   refine aw_reg [(1, .call [(false, .agg [slStroke false x_1.Strokes])] true (.tup [.agg [I (((cenR x_1).1).X), I (((cenR x_1).1).Y)], I ((cenR x_1).2)])), (5, .new 17)] [3, 4, 5, 6, 7, 8, 9, 10, 11, 12, 13, 14, 15, 16, 17, 18] [3, 5, 7, 17] [.ref 3 0, I side_1, .ref 5 0, I c_2, .ref 7 0, I c_3, I v_4, I c_4, I v_5, I c_5, I v_6, I c_6, I v_7, I c_7, .ref 17 0, I ((cenR x_1).2)] [some (.box [slStroke true x_1.Strokes]), some (.box [slStroke true v_2.Strokes]), some (.box [slStroke true v_3.Strokes]), some (.box [I (((cenR x_1).1).X), I (((cenR x_1).1).Y)])] [Con Try.prog 45 [.agg [slStroke false x_1.Strokes]] true (.tup [.agg [I (((cenR x_1).1).X), I (((cenR x_1).1).Y)], I ((cenR x_1).2)]) ∧ (((false = true → true = true) ∧ 1 = 1 ∧ x_1.Strokes.length = x_1.Strokes.length ∧ ∀ i, i < x_1.Strokes.length → (fStroke true x_1.Strokes) i = (fStroke false x_1.Strokes) i ∨ (AV.idsL ((fStroke false x_1.Strokes) i) = [] ∧ leL (fun _ => none) false ((fStroke true x_1.Strokes) i) ((fStroke false x_1.Strokes) i))) ∧ ([] : List AV) = []) ∧ True] (by kernel_rfl) hB ⟨⟨(implCenterOf_ok x_1), ⟨⟨(fun h => by cases h), rfl, rfl, fun i _ => .inr ⟨idsStroke _ _, leStroke _ _ _⟩⟩, rfl⟩, trivial⟩, trivial⟩ ?_
   refine ae_then ?_
   refine aw_seq ?_
   refine aw_reg [(1, .call [(false, .agg [slStroke false x_1.Strokes])] true (.tup [.agg [I (((cenR x_1).1).X), I (((cenR x_1).1).Y)], I ((cenR x_1).2)])), (5, .new 19)] [3, 4, 5, 6, 7, 8, 9, 10, 11, 12, 13, 14, 15, 16, 17, 18, 19, 20] [3, 5, 7, 17, 19] [.ref 3 0, I side_1, .ref 5 0, I c_2, .ref 7 0, I c_3, I v_4, I c_4, I v_5, I c_5, I v_6, I c_6, I v_7, I c_7, .ref 17 0, I ((cenR x_1).2), .ref 19 0, I ((cenR x_1).2)] [some (.box [slStroke true x_1.Strokes]), some (.box [slStroke true v_2.Strokes]), some (.box [slStroke true v_3.Strokes]), some (.box [I (((cenR x_1).1).X), I (((cenR x_1).1).Y)]), some (.box [I (((cenR x_1).1).X), I (((cenR x_1).1).Y)])] [Con Try.prog 46 [.agg [slStroke false x_1.Strokes]] true (.tup [.agg [I (((cenR x_1).1).X), I (((cenR x_1).1).Y)], I ((cenR x_1).2)]) ∧ (((false = true → true = true) ∧ 1 = 1 ∧ x_1.Strokes.length = x_1.Strokes.length ∧ ∀ i, i < x_1.Strokes.length → (fStroke true x_1.Strokes) i = (fStroke false x_1.Strokes) i ∨ (AV.idsL ((fStroke false x_1.Strokes) i) = [] ∧ leL (fun _ => none) false ((fStroke true x_1.Strokes) i) ((fStroke false x_1.Strokes) i))) ∧ ([] : List AV) = []) ∧ True] (by kernel_rfl) hB ⟨⟨(specCenterOf_ok x_1), ⟨⟨(fun h => by cases h), rfl, rfl, fun i _ => .inr ⟨idsStroke _ _, leStroke _ _ _⟩⟩, rfl⟩, trivial⟩, trivial⟩ ?_
   refine ae_then ?_
   refine aw_seq ?_
   refine aw_seq ?_
   refine aw_reg [(2, .dec false), (6, .call [(false, .agg [slStroke false v_2.Strokes]), (false, .agg [slStroke false v_3.Strokes])] true (Bv true)), (12, .dec false), (17, .dec false), (22, .dec false), (27, .dec false), (32, .dec false), (37, .dec false)] [3, 4, 5, 6, 9, 17, 114] [3, 5, 17] [.ref 3 0, I side_1, .ref 5 0, I c_2, I v_4, .ref 17 0, Bv false] [some (.box [slStroke true x_1.Strokes]), some (.box [slStroke true v_2.Strokes]), some (.box [I (((cenR x_1).1).X), I (((cenR x_1).1).Y)])] [¬ (c_2 ≠ c_3), Con Try.prog 47 [.agg [slStroke false v_2.Strokes], .agg [slStroke false v_3.Strokes]] true (Bv true) ∧ (((false = true → true = true) ∧ 1 = 1 ∧ v_2.Strokes.length = v_2.Strokes.length ∧ ∀ i, i < v_2.Strokes.length → (fStroke true v_2.Strokes) i = (fStroke false v_2.Strokes) i ∨ (AV.idsL ((fStroke false v_2.Strokes) i) = [] ∧ leL (fun _ => none) false ((fStroke true v_2.Strokes) i) ((fStroke false v_2.Strokes) i))) ∧ ([] : List AV) = []) ∧ (((false = true → true = true) ∧ 1 = 1 ∧ v_3.Strokes.length = v_3.Strokes.length ∧ ∀ i, i < v_3.Strokes.length → (fStroke true v_3.Strokes) i = (fStroke false v_3.Strokes) i ∨ (AV.idsL ((fStroke false v_3.Strokes) i) = [] ∧ leL (fun _ => none) false ((fStroke true v_3.Strokes) i) ((fStroke false v_3.Strokes) i))) ∧ ([] : List AV) = []) ∧ True, ¬ (c_4 ≠ c_5), ¬ (v_4 ≠ v_5), ¬ (c_6 ≠ c_7), ¬ (v_6 ≠ v_7), ¬ (((cenR x_1).2) ≠ ((cenR x_1).2)), ¬ (¬ ((((cenR x_1).1).X) = (((cenR x_1).1).X) ∧ (((cenR x_1).1).Y) = (((cenR x_1).1).Y) ∧ True))] (by kernel_rfl) hB ⟨(fun hq => hq (hx2_1.trans hx3_1.symm)), ⟨(con_bool (sameI_of (hx2_0.trans hx3_0.symm)) (specSameInk_ok v_2 v_3)), ⟨⟨(fun h => by cases h), rfl, rfl, fun i _ => .inr ⟨idsStroke _ _, leStroke _ _ _⟩⟩, rfl⟩, ⟨⟨(fun h => by cases h), rfl, rfl, fun i _ => .inr ⟨idsStroke _ _, leStroke _ _ _⟩⟩, rfl⟩, trivial⟩, (fun hq => hq (hx4_1.trans hx5_1.symm)), (fun hq => hq (hx4_0.trans hx5_0.symm)), (fun hq => hq (hx6_1.trans hx7_1.symm)), (fun hq => hq (hx6_0.trans hx7_0.symm)), (fun hq => hq rfl), (fun hq => hq ⟨rfl, rfl, trivial⟩), trivial⟩ ?_
   refine ae_then ?_
   refine aw_false rfl ?_
   refine aw_skip ?_
   refine ae_then ?_
   refine aw_seq ?_
   refine aw_seq ?_
   by_cases h2 : c_2 = 0
   ·have hf0 : (fitR x_1 side_1).2 = 0 := by rw [← hx2_1]; exact h2
    have hfo := fitR_ok hf0
    have hff := fit_facts hf0
    have hci := cen_in hfo.1 hfo.2.2.1
    have hbi := base_in hfo.1 hfo.2.2.1
    have hfv : v_2 = fitA x_1 side_1 := by rw [hx2_0, hfo.2.2.2]
    have hfr : fitR v_2 side_1 = (v_2, 0) := by rw [hfv, fitR_yes hff.1 hfo.2.1 (by rw [hff.2.2.1]; exact hfo.2.2.1), hff.2.1]
    have hbx2 := bxi_yes (x := v_2) (by rw [hfv]; exact hff.1) (by rw [hfv, hff.2.2.1]; exact hfo.2.2.1)
    have hbl : v_2.Strokes.length = x_1.Strokes.length := by rw [hfv]; exact hff.2.2.1
    have hbx1 := bxi_yes hfo.1 hfo.2.2.1
    have hyb : v_4 = (ovR (fun b => b.Y2) x_1).1 := hx4_0
    have hlast := hff.2.2.2
    rw [← hfv] at hlast
    have hbo := inkB_ok hfo.1 (by omega) _ (Nat.le_refl x_1.Strokes.length)
    have hbo2 := inkB_ok (x := v_2) (by rw [hfv]; exact hff.1) (by omega) x_1.Strokes.length (by omega)
    unfold okBox at hbo hbo2
    have hbq : (bxiR v_2).1 = inkB v_2.Strokes x_1.Strokes.length := by rw [hbx2, hbl]
    have hbo3 := hbo2
    rw [← hbq] at hbo3
    refine aw_reg [(1, .dec false)] [3, 4, 5, 9, 17, 116] [3, 5, 17] [.ref 3 0, I side_1, .ref 5 0, I v_4, .ref 17 0, Bv false] [some (.box [slStroke true x_1.Strokes]), some (.box [slStroke true v_2.Strokes]), some (.box [I (((cenR x_1).1).X), I (((cenR x_1).1).Y)])] [¬ (c_2 ≠ 0)] (by kernel_rfl) hB ⟨(fun hq => hq h2), trivial⟩ ?_
    refine ae_then ?_
    refine aw_false rfl ?_
    refine aw_skip ?_
    refine ae_then ?_
    refine aw_seq ?_
    obtain ⟨v_8, c_8, hx8_0, hx8_1, hc8⟩ := implFitInk_ok v_2 side_1
    refine aw_reg [(2, .call [(false, .agg [slStroke false v_2.Strokes]), (true, I side_1)] true (.tup [.agg [slStroke true v_8.Strokes], I c_8])), (6, .new 21)] [3, 4, 5, 9, 17, 21, 22] [3, 5, 17, 21] [.ref 3 0, I side_1, .ref 5 0, I v_4, .ref 17 0, .ref 21 0, I c_8] [some (.box [slStroke true x_1.Strokes]), some (.box [slStroke true v_2.Strokes]), some (.box [I (((cenR x_1).1).X), I (((cenR x_1).1).Y)]), some (.box [slStroke true v_8.Strokes])] [Con Try.prog 39 [.agg [slStroke false v_2.Strokes], I side_1] true (.tup [.agg [slStroke true v_8.Strokes], I c_8]) ∧ (((false = true → true = true) ∧ 1 = 1 ∧ v_2.Strokes.length = v_2.Strokes.length ∧ ∀ i, i < v_2.Strokes.length → (fStroke true v_2.Strokes) i = (fStroke false v_2.Strokes) i ∨ (AV.idsL ((fStroke false v_2.Strokes) i) = [] ∧ leL (fun _ => none) false ((fStroke true v_2.Strokes) i) ((fStroke false v_2.Strokes) i))) ∧ ([] : List AV) = []) ∧ ((I side_1 : AV) = I side_1) ∧ True] (by kernel_rfl) hB ⟨⟨hc8, ⟨⟨(fun h => by cases h), rfl, rfl, fun i _ => .inr ⟨idsStroke _ _, leStroke _ _ _⟩⟩, rfl⟩, rfl, trivial⟩, trivial⟩ ?_
    refine ae_then ?_
    refine aw_seq ?_
    refine aw_reg [(1, .call [(false, .agg [slStroke false x_1.Strokes])] true (.tup [agBox ((bxiR x_1).1), I ((bxiR x_1).2)])), (5, .new 23)] [4, 5, 9, 17, 21, 22, 23, 24] [5, 17, 21, 23] [I side_1, .ref 5 0, I v_4, .ref 17 0, .ref 21 0, I c_8, .ref 23 0, I ((bxiR x_1).2)] [some (.box [slStroke true v_2.Strokes]), some (.box [I (((cenR x_1).1).X), I (((cenR x_1).1).Y)]), some (.box [slStroke true v_8.Strokes]), some (bxBox ((bxiR x_1).1))] [Con Try.prog 48 [.agg [slStroke false x_1.Strokes]] true (.tup [agBox ((bxiR x_1).1), I ((bxiR x_1).2)]) ∧ (((false = true → true = true) ∧ 1 = 1 ∧ x_1.Strokes.length = x_1.Strokes.length ∧ ∀ i, i < x_1.Strokes.length → (fStroke true x_1.Strokes) i = (fStroke false x_1.Strokes) i ∨ (AV.idsL ((fStroke false x_1.Strokes) i) = [] ∧ leL (fun _ => none) false ((fStroke true x_1.Strokes) i) ((fStroke false x_1.Strokes) i))) ∧ ([] : List AV) = []) ∧ True] (by kernel_rfl) hB ⟨⟨(implBoxOfInk_ok x_1), ⟨⟨(fun h => by cases h), rfl, rfl, fun i _ => .inr ⟨idsStroke _ _, leStroke _ _ _⟩⟩, rfl⟩, trivial⟩, trivial⟩ ?_
    refine ae_then ?_
    refine aw_seq ?_
    refine aw_reg [(1, .call [(false, .agg [slStroke false v_2.Strokes])] true (.tup [agBox ((bxiR v_2).1), I ((bxiR v_2).2)])), (5, .new 25)] [4, 5, 9, 17, 21, 22, 23, 24, 25, 26] [5, 17, 21, 23, 25] [I side_1, .ref 5 0, I v_4, .ref 17 0, .ref 21 0, I c_8, .ref 23 0, I ((bxiR x_1).2), .ref 25 0, I ((bxiR v_2).2)] [some (.box [slStroke true v_2.Strokes]), some (.box [I (((cenR x_1).1).X), I (((cenR x_1).1).Y)]), some (.box [slStroke true v_8.Strokes]), some (bxBox ((bxiR x_1).1)), some (bxBox ((bxiR v_2).1))] [Con Try.prog 48 [.agg [slStroke false v_2.Strokes]] true (.tup [agBox ((bxiR v_2).1), I ((bxiR v_2).2)]) ∧ (((false = true → true = true) ∧ 1 = 1 ∧ v_2.Strokes.length = v_2.Strokes.length ∧ ∀ i, i < v_2.Strokes.length → (fStroke true v_2.Strokes) i = (fStroke false v_2.Strokes) i ∨ (AV.idsL ((fStroke false v_2.Strokes) i) = [] ∧ leL (fun _ => none) false ((fStroke true v_2.Strokes) i) ((fStroke false v_2.Strokes) i))) ∧ ([] : List AV) = []) ∧ True] (by kernel_rfl) hB ⟨⟨(implBoxOfInk_ok v_2), ⟨⟨(fun h => by cases h), rfl, rfl, fun i _ => .inr ⟨idsStroke _ _, leStroke _ _ _⟩⟩, rfl⟩, trivial⟩, trivial⟩ ?_
    refine ae_then ?_
    refine aw_seq ?_
    refine aw_seq ?_
    refine aw_reg [(1, .dec false), (5, .call [(false, .agg [slStroke false v_8.Strokes]), (false, .agg [slStroke false v_2.Strokes])] true (Bv true)), (10, .dec false), (14, .dec false), (21, .dec false), (28, .dec false), (34, .dec false), (40, .dec false)] [4, 23, 25, 174] [23, 25] [I side_1, .ref 23 0, .ref 25 0, Bv false] [some (bxBox ((bxiR x_1).1)), some (bxBox ((bxiR v_2).1))] [¬ (c_8 ≠ 0), Con Try.prog 47 [.agg [slStroke false v_8.Strokes], .agg [slStroke false v_2.Strokes]] true (Bv true) ∧ (((false = true → true = true) ∧ 1 = 1 ∧ v_8.Strokes.length = v_8.Strokes.length ∧ ∀ i, i < v_8.Strokes.length → (fStroke true v_8.Strokes) i = (fStroke false v_8.Strokes) i ∨ (AV.idsL ((fStroke false v_8.Strokes) i) = [] ∧ leL (fun _ => none) false ((fStroke true v_8.Strokes) i) ((fStroke false v_8.Strokes) i))) ∧ ([] : List AV) = []) ∧ (((false = true → true = true) ∧ 1 = 1 ∧ v_2.Strokes.length = v_2.Strokes.length ∧ ∀ i, i < v_2.Strokes.length → (fStroke true v_2.Strokes) i = (fStroke false v_2.Strokes) i ∨ (AV.idsL ((fStroke false v_2.Strokes) i) = [] ∧ leL (fun _ => none) false ((fStroke true v_2.Strokes) i) ((fStroke false v_2.Strokes) i))) ∧ ([] : List AV) = []) ∧ True, ¬ (((bxiR x_1).2) ≠ 0), ¬ (((bxiR v_2).2) ≠ 0), ¬ ((((cenR x_1).1).X) < (((bxiR x_1).1).X1)), ¬ ((((bxiR x_1).1).X2) < (((cenR x_1).1).X)), ¬ (v_4 < (((bxiR x_1).1).Y1)), ¬ ((((bxiR x_1).1).Y2) < v_4)] (by kernel_rfl) hB ⟨(fun hq => hq (by rw [hx8_1, hfr])), ⟨(con_bool (sameI_of (by rw [hx8_0, hfr])) (specSameInk_ok v_8 v_2)), ⟨⟨(fun h => by cases h), rfl, rfl, fun i _ => .inr ⟨idsStroke _ _, leStroke _ _ _⟩⟩, rfl⟩, ⟨⟨(fun h => by cases h), rfl, rfl, fun i _ => .inr ⟨idsStroke _ _, leStroke _ _ _⟩⟩, rfl⟩, trivial⟩, (fun hq => hq (by rw [hbx1])), (fun hq => hq (by rw [hbx2])), (by rw [hbx1]; simp only; omega), (by rw [hbx1]; simp only; omega), (by rw [hbx1]; simp only; omega), (by rw [hbx1]; simp only; omega), trivial⟩ ?_
    refine ae_then ?_
    refine aw_false rfl ?_
    refine aw_skip ?_
    refine ae_then ?_
    refine aw_seq ?_
    by_cases h3 : (((bxiR x_1).1).X1) = (((bxiR x_1).1).X2)
    ·by_cases h4 : (((bxiR x_1).1).Y1) = (((bxiR x_1).1).Y2)
     ·refine aw_reg [(4, .dec true), (10, .dec true)] [2] [] [Bv true] [] [(((bxiR x_1).1).X1) = (((bxiR x_1).1).X2), (((bxiR x_1).1).Y1) = (((bxiR x_1).1).Y2)] (by kernel_rfl) hB ⟨h3, h4, trivial⟩ ?_
      refine ae_then ?_
      refine aw_ret ?_
      refine ae_ret hB (Bv true) (by kernel_rfl) (.inl rfl) rfl (fun _ => trivial)
     ·refine aw_reg [(4, .dec true), (10, .dec false)] [2] [] [Bv (decide ((max ((((bxiR v_2).1).X2) - (((bxiR v_2).1).X1)) ((((bxiR v_2).1).Y2) - (((bxiR v_2).1).Y1))) = side_1))] [] [(((bxiR x_1).1).X1) = (((bxiR x_1).1).X2), ¬ ((((bxiR x_1).1).Y1) = (((bxiR x_1).1).Y2)), inR .i64 ((((bxiR v_2).1).X2) - (((bxiR v_2).1).X1)), inR .i64 ((((bxiR v_2).1).Y2) - (((bxiR v_2).1).Y1))] (by kernel_rfl) hB ⟨h3, h4, (inR_i64 (by omega) (by omega)), (inR_i64 (by omega) (by omega)), trivial⟩ ?_
      refine ae_then ?_
      refine aw_ret ?_
      refine ae_ret hB (Bv (decide ((max ((((bxiR v_2).1).X2) - (((bxiR v_2).1).X1)) ((((bxiR v_2).1).Y2) - (((bxiR v_2).1).Y1))) = side_1))) (by kernel_rfl) (.inl (by first | rfl | (simp only [hbx1, hbx2, hbl] at *; refine congrArg Bv (decide_eq_true ?_); omega))) rfl (fun _ => trivial)
    ·refine aw_reg [(4, .dec false)] [2] [] [Bv (decide ((max ((((bxiR v_2).1).X2) - (((bxiR v_2).1).X1)) ((((bxiR v_2).1).Y2) - (((bxiR v_2).1).Y1))) = side_1))] [] [¬ ((((bxiR x_1).1).X1) = (((bxiR x_1).1).X2)), inR .i64 ((((bxiR v_2).1).X2) - (((bxiR v_2).1).X1)), inR .i64 ((((bxiR v_2).1).Y2) - (((bxiR v_2).1).Y1))] (by kernel_rfl) hB ⟨h3, (inR_i64 (by omega) (by omega)), (inR_i64 (by omega) (by omega)), trivial⟩ ?_
     refine ae_then ?_
     refine aw_ret ?_
     refine ae_ret hB (Bv (decide ((max ((((bxiR v_2).1).X2) - (((bxiR v_2).1).X1)) ((((bxiR v_2).1).Y2) - (((bxiR v_2).1).Y1))) = side_1))) (by kernel_rfl) (.inl (by first | rfl | (simp only [hbx1, hbx2, hbl] at *; refine congrArg Bv (decide_eq_true ?_); omega))) rfl (fun _ => trivial)
   ·refine aw_reg [(1, .dec true)] [3, 4, 5, 9, 17, 116] [3, 5, 17] [.ref 3 0, I side_1, .ref 5 0, I v_4, .ref 17 0, Bv true] [some (.box [slStroke true x_1.Strokes]), some (.box [slStroke true v_2.Strokes]), some (.box [I (((cenR x_1).1).X), I (((cenR x_1).1).Y)])] [c_2 ≠ 0] (by kernel_rfl) hB ⟨h2, trivial⟩ ?_
    refine ae_then ?_
    refine aw_true rfl ?_
    refine aw_seq ?_
    refine aw_reg [] [2] [] [Bv true] [] [] (by kernel_rfl) hB trivial ?_
    refine ae_then ?_
    refine aw_ret ?_
    refine ae_ret_then ?_
    refine ae_ret hB (Bv true) (by kernel_rfl) (.inl rfl) rfl (fun _ => trivial)


/-! ### the row -/

theorem opens_t22 : OpensA Try.prog 22 (cLU8 false) (fun xs => ∀ y ∈ xs, inR .u8 y) :=
  opensA_slice (c := cU8) (sz := 1) Try.underlying22 (by kernel_rfl) (by decide) (fun x => ⟨rfl, by simp [oneA, cU8]⟩) (opensA_int Try.underlying5)

namespace fnFittedInk
set_option maxRecDepth 100000 in
theorem lifted (os : Os) (started : os.Started) (H : Type) (enc : TypeId × Value → H) :
    ReturnsInHanded {} Try.checked os 6 .any (Rows.fnFittedInkSpec.pre6 enc Try.prog Try.f6 Rows.fnFittedInkRow.domain false) (Rows.fnFittedInkSpec.post enc Try.prog Try.f6 false true false false) := by
  refine returnsInHanded_of_change_shaped (C := Try.checked) Try.own started (by kernel_rfl) Try.func6
    (ChangeSpec.witness6 (enc := enc) (C := Try.checked) false ⟨#[], #[.slice none 0 0], []⟩ 8 (by kernel_rfl) (by kernel_rfl) (by kernel_rfl) (by kernel_rfl)) ?_
  intro W base args ds gs before hval0 hW hcnd hsz hshp _
  have hW' := hW
  obtain ⟨p, q, hA0, hV, rfl, hfz, hnd⟩ := hW
  have hval : ∀ (j : Nat) t v, Try.f6.params[j]? = some t → args[j]? = some v → Value.okWide Try.prog W .any base t v := hval0
  have hA : DataW.TrodAll enc Try.prog W 0 (fun _ => true) true Try.f6.params.toList args.toList ds p := hA0
  rw [Try.params6] at hA hval
  obtain ⟨v0, vs0, d0, ds0, p0, q0, hargs, rfl, rfl, h0, r0⟩ := trodAll_cons hA
  obtain ⟨rfl, rfl, rfl⟩ := trodAll_nil r0
  obtain rfl : args = #[v0] := args_eq hargs
  obtain ⟨rfl, rfl⟩ := trodVars_none hV
  obtain ⟨fuel0, hf0⟩ := h0
  obtain ⟨A0, l0, c0, rfl⟩ := okWide_slice Try.underlying22 (hval 0 22 v0 rfl rfl)
  obtain ⟨x0, rx0, ok0⟩ := (opens_t22) enc W 0 _ _ _ _ _ hf0
  refine (walk_of0 (fnFittedInk_con x0 ok0) (fun w _ => WX_free w) (RelTL.cons (relTL_one rx0) RelTL.nil)).mono fun e W1 ⟨he, hb⟩ => ?_
  subst he
  exact ⟨_, rfl, law_post Try.laidOut rfl Try.underlying4 (of_decide_eq_true (by kernel_rfl)) rfl hW' hb rfl⟩

theorem over : Rows.fnFittedInkRow.holds Try.pinned (OpenSpec.ofChange Rows.fnFittedInkSpec) :=
  OpenClaim.holds_of_wide 6 Try.f6 rfl rfl rfl rfl rfl rfl rfl ⟨rfl, rfl, rfl, rfl, rfl⟩ rfl rfl rfl rfl rfl (by kernel_rfl) Try.func6 (by kernel_rfl)
    (of_decide_eq_true (by kernel_rfl)) (by unfold Func.isWrapper; first | (rw [if_pos (by decide +kernel)]; kernel_rfl) | (rw [if_neg (by decide +kernel)]; exact ⟨rfl, rfl⟩))
    (fun os started H enc _ => lifted os started H enc)

theorem proved : Rows.FnFittedInkSaid :=
  over
#print axioms proved
end fnFittedInk
end Go.Proofs.Ytebcbkejkpjeoaa.Ax
