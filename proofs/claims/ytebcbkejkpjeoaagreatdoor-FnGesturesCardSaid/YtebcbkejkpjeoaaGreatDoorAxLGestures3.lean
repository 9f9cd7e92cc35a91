/- Contracts that the statement FnGestures reaches, part 3. No conditions. -/
import Derived.Test.YtebcbkejkpjeoaaGreatDoorAxLGestures2
import Derived.LaidMore
import Derived.Lay
import Derived.OpenShut
import Derived.SevenTiedAt
import Derived.Shelf.Strings.SlTrimAscii
import Derived.Stop.Joined
namespace Go.Proofs.YtebcbkejkpjeoaaGreatDoor.Ax
open Go.RowKit Go.ChangeShapes Go.WideShapes
set_option linter.unusedVariables false
set_option linter.unusedSimpArgs false


-- spec.l02Stroke
theorem l02Stroke_ok (s : Stroke) : Con Tryz.prog 35 [.ptr false [slPoint false s.Points]] true (Bv (okStroke' s)) := by
  refine fn_ok (fn := Tryz.f35) (nt := 52) Tryz.func35 rfl rfl rfl rfl (by simp [taggedL, tagged, tagPoint]) fun B hB => ?_
  refine aw_lens (x := .ptr false [slPoint false s.Points]) 0 rfl (fun len_s => ?_)
  simp [LenOK, LenL, cPoint, fPoint, slPoint] at len_s
  refine aw_seq ?_
  refine aw_reg [] [0] [] [.ptr false [slPoint false s.Points]] [] [] (by kernel_rfl) hB trivial ?_
  refine ae_then ?_
  refine aw_seq ?_
  refine aw_seq ?_
  refine aw_reg [] [0, 3] [] [.ptr false [slPoint false s.Points], I 0] [] [] (by kernel_rfl) hB trivial ?_
  refine ae_then ?_
  refine aw_block ?_
  refine aw_loop (fun gn gσ => ∃ (i : Int), gn = ((s.Points.length : Int) - i).toNat ∧ (0 ≤ i ∧ i ≤ (s.Points.length : Int)) ∧ (∀ j : Nat, (j : Int) < i → okPt s.Points j = true) ∧ gσ = mkS [(0, .ptr false [slPoint false s.Points]), (3, I i)] []) (((s.Points.length : Int) - 0).toNat) ⟨0, rfl, (by omega), (by intro j hj; omega), rfl⟩ (fun gn gσ hI => ?_)
  obtain ⟨i, rfl, hi0, hall0, rfl⟩ := hI
  refine aw_seq ?_
  refine aw_seq ?_
  by_cases h1 : i < (s.Points.length : Int)
  ·have hi : i.toNat < s.Points.length := by omega
   refine aw_reg [(6, .dec true)] [0, 3, 10] [] [.ptr false [slPoint false s.Points], I i, Bv true] [] [i < (s.Points.length : Int)] (by kernel_rfl) hB ⟨h1, trivial⟩ ?_
   refine ae_then ?_
   refine aw_true rfl ?_
   refine aw_skip ?_
   refine ae_then ?_
   refine aw_seq ?_
   refine aw_block ?_
   refine aw_seq ?_
   rcases Bool.eq_false_or_eq_true (okP (at_ s.Points i.toNat)) with h2 | h2
   ·by_cases h3 : 0 < i
    ·by_cases h4 : ((at_ s.Points i.toNat).T) ≤ ((at_ s.Points ((i - 1).toNat)).T)
     ·have hall : allN s.Points.length (okPt s.Points) = false := allN_not hi (okPt_no h3 h4)
      refine aw_reg [(7, .call [(true, agPoint (at_ s.Points i.toNat))] true (Bv true)), (11, .dec true), (30, .dec true)] [0, 3, 45] [] [.ptr false [slPoint false s.Points], I i, Bv true] [] [(0 : Int) ≤ i ∧ i < (s.Points.length : Int), Con Tryz.prog 69 [agPoint (at_ s.Points i.toNat)] true (Bv true) ∧ ((agPoint (at_ s.Points i.toNat) : AV) = agPoint (at_ s.Points i.toNat)) ∧ True, 0 < i, (0 : Int) ≤ i ∧ i < (s.Points.length : Int), inR .i64 (i - 1), (0 : Int) ≤ (i - 1) ∧ (i - 1) < (s.Points.length : Int), ((at_ s.Points i.toNat).T) ≤ ((at_ s.Points ((i - 1).toNat)).T)] (by kernel_rfl) hB ⟨⟨(by omega), (by omega)⟩, ⟨(con_bool h2 (l02Point_ok (at_ s.Points i.toNat))), rfl, trivial⟩, h3, ⟨(by omega), (by omega)⟩, (inR_i64 (by omega) (by omega)), ⟨(by omega), (by omega)⟩, h4, trivial⟩ ?_
      refine ae_then ?_
      refine aw_true rfl ?_
      refine aw_seq ?_
      refine aw_reg [] [2] [] [Bv false] [] [] (by kernel_rfl) hB trivial ?_
      refine ae_then ?_
      refine aw_ret ?_
      refine ae_ret_block (ae_ret_then (ae_ret_then (ae_ret_block (ae_ret_then ?_))))
      refine ae_ret hB (Bv false) (by kernel_rfl) (.inl (by first | rfl | (refine congrArg Bv ?_; simp [okStroke', inB, *]; done) | (refine congrArg Bv ?_; simp [okStroke', inB, *]; omega) | (refine congrArg Bv ?_; simp_all [okStroke', inB]; done) | (refine congrArg Bv ?_; simp_all [okStroke', inB]; omega))) rfl (fun _ => trivial)
     ·have hok := okPt_yes h2 h3 h4
      refine aw_reg [(7, .call [(true, agPoint (at_ s.Points i.toNat))] true (Bv true)), (11, .dec true), (30, .dec false)] [0, 3, 45] [] [.ptr false [slPoint false s.Points], I i, Bv false] [] [(0 : Int) ≤ i ∧ i < (s.Points.length : Int), Con Tryz.prog 69 [agPoint (at_ s.Points i.toNat)] true (Bv true) ∧ ((agPoint (at_ s.Points i.toNat) : AV) = agPoint (at_ s.Points i.toNat)) ∧ True, 0 < i, (0 : Int) ≤ i ∧ i < (s.Points.length : Int), inR .i64 (i - 1), (0 : Int) ≤ (i - 1) ∧ (i - 1) < (s.Points.length : Int), ¬ (((at_ s.Points i.toNat).T) ≤ ((at_ s.Points ((i - 1).toNat)).T))] (by kernel_rfl) hB ⟨⟨(by omega), (by omega)⟩, ⟨(con_bool h2 (l02Point_ok (at_ s.Points i.toNat))), rfl, trivial⟩, h3, ⟨(by omega), (by omega)⟩, (inR_i64 (by omega) (by omega)), ⟨(by omega), (by omega)⟩, h4, trivial⟩ ?_
      refine ae_then ?_
      refine aw_false rfl ?_
      refine aw_skip ?_
      refine ae_block 1 ?_
      refine ae_then ?_
      refine aw_reg [] [0, 3] [] [.ptr false [slPoint false s.Points], I (i + 1)] [] [inR .i64 (i + 1)] (by kernel_rfl) hB ⟨(inR_i64 (by omega) (by omega)), trivial⟩ ?_
      exact ae_again _ (by omega) ⟨(i + 1), rfl, (by omega), (by intro j hj; by_cases ej : j = i.toNat; (subst ej; first | assumption | exact hok); exact hall0 j (by omega)), rfl⟩
    ·have hok := okPt_zero h2 hi0.1 h3
     refine aw_reg [(7, .call [(true, agPoint (at_ s.Points i.toNat))] true (Bv true)), (11, .dec false)] [0, 3, 45] [] [.ptr false [slPoint false s.Points], I i, Bv false] [] [(0 : Int) ≤ i ∧ i < (s.Points.length : Int), Con Tryz.prog 69 [agPoint (at_ s.Points i.toNat)] true (Bv true) ∧ ((agPoint (at_ s.Points i.toNat) : AV) = agPoint (at_ s.Points i.toNat)) ∧ True, ¬ (0 < i)] (by kernel_rfl) hB ⟨⟨(by omega), (by omega)⟩, ⟨(con_bool h2 (l02Point_ok (at_ s.Points i.toNat))), rfl, trivial⟩, h3, trivial⟩ ?_
     refine ae_then ?_
     refine aw_false rfl ?_
     refine aw_skip ?_
     refine ae_block 1 ?_
     refine ae_then ?_
     refine aw_reg [] [0, 3] [] [.ptr false [slPoint false s.Points], I (i + 1)] [] [inR .i64 (i + 1)] (by kernel_rfl) hB ⟨(inR_i64 (by omega) (by omega)), trivial⟩ ?_
     exact ae_again _ (by omega) ⟨(i + 1), rfl, (by omega), (by intro j hj; by_cases ej : j = i.toNat; (subst ej; first | assumption | exact hok); exact hall0 j (by omega)), rfl⟩
   ·have hall : allN s.Points.length (okPt s.Points) = false := allN_not hi (okPt_bad h2)
    refine aw_reg [(7, .call [(true, agPoint (at_ s.Points i.toNat))] true (Bv false))] [0, 3, 45] [] [.ptr false [slPoint false s.Points], I i, Bv true] [] [(0 : Int) ≤ i ∧ i < (s.Points.length : Int), Con Tryz.prog 69 [agPoint (at_ s.Points i.toNat)] true (Bv false) ∧ ((agPoint (at_ s.Points i.toNat) : AV) = agPoint (at_ s.Points i.toNat)) ∧ True] (by kernel_rfl) hB ⟨⟨(by omega), (by omega)⟩, ⟨(con_bool h2 (l02Point_ok (at_ s.Points i.toNat))), rfl, trivial⟩, trivial⟩ ?_
    refine ae_then ?_
    refine aw_true rfl ?_
    refine aw_seq ?_
    refine aw_reg [] [2] [] [Bv false] [] [] (by kernel_rfl) hB trivial ?_
    refine ae_then ?_
    refine aw_ret ?_
    refine ae_ret_block (ae_ret_then (ae_ret_then (ae_ret_block (ae_ret_then ?_))))
    refine ae_ret hB (Bv false) (by kernel_rfl) (.inl (by first | rfl | (refine congrArg Bv ?_; simp [okStroke', inB, *]; done) | (refine congrArg Bv ?_; simp [okStroke', inB, *]; omega) | (refine congrArg Bv ?_; simp_all [okStroke', inB]; done) | (refine congrArg Bv ?_; simp_all [okStroke', inB]; omega))) rfl (fun _ => trivial)
  ·have hall : allN s.Points.length (okPt s.Points) = true := allN_at (fun j hj => hall0 j (by omega))
   refine aw_reg [(6, .dec false)] [0, 3, 10] [] [.ptr false [slPoint false s.Points], I i, Bv false] [] [¬ (i < (s.Points.length : Int))] (by kernel_rfl) hB ⟨h1, trivial⟩ ?_
   refine ae_then ?_
   refine aw_false rfl ?_
   refine aw_exit ?_
   refine ae_exit_then ?_
   refine ae_exit_then ?_
   refine ae_exit_same ?_
   refine ae_then ?_
   refine aw_seq ?_
   refine aw_reg [(5, .call [(true, I (s.Points.length : Int)), (true, I 1), (true, I 60)] true (Bv (inB (s.Points.length : Int) 1 60)))] [2] [] [Bv (inB (s.Points.length : Int) 1 60)] [] [Con Tryz.prog 46 [I (s.Points.length : Int), I 1, I 60] true (Bv (inB (s.Points.length : Int) 1 60)) ∧ ((I (s.Points.length : Int) : AV) = I (s.Points.length : Int)) ∧ ((I 1 : AV) = I 1) ∧ ((I 60 : AV) = I 60) ∧ True] (by kernel_rfl) hB ⟨⟨(l00In_ok (s.Points.length : Int) 1 60), rfl, rfl, rfl, trivial⟩, trivial⟩ ?_
   refine ae_then ?_
   refine aw_ret ?_
   refine ae_ret hB (Bv (inB (s.Points.length : Int) 1 60)) (by kernel_rfl) (.inl (by first | rfl | (refine congrArg Bv ?_; simp [okStroke', inB, *]; done) | (refine congrArg Bv ?_; simp [okStroke', inB, *]; omega) | (refine congrArg Bv ?_; simp_all [okStroke', inB]; done) | (refine congrArg Bv ?_; simp_all [okStroke', inB]; omega))) rfl (fun _ => trivial)


-- spec.l05Far
theorem l05Far_ok (a : Point) (b : Point) (ha : okP a = true) (hb : okP b = true) : Con Tryz.prog 97 [agPoint a, agPoint b] true (I (farI a b)) := by
  have ha' := okP_iff.1 ha
  have hb' := okP_iff.1 hb
  have hfb := far_bd ha hb
  refine fn_ok (fn := Tryz.f97) (nt := 24) Tryz.func97 rfl rfl rfl rfl (by simp [taggedL, tagged]) fun B hB => ?_
  refine aw_seq ?_
  refine aw_reg [(0, .new 2), (1, .new 3)] [2, 3] [2, 3] [.ref 2 0, .ref 3 0] [some (bxPoint a), some (bxPoint b)] [] (by kernel_rfl) hB trivial ?_
  refine ae_then ?_
  refine aw_seq ?_
  refine aw_reg [] [2, 3, 5] [2, 3] [.ref 2 0, .ref 3 0, I (a.X - b.X)] [some (bxPoint a), some (bxPoint b)] [inR .i64 (a.X - b.X)] (by kernel_rfl) hB ⟨(inR_i64 (by omega) (by omega)), trivial⟩ ?_
  refine ae_then ?_
  refine aw_seq ?_
  refine aw_reg [] [5, 6] [] [I (a.X - b.X), I (a.Y - b.Y)] [] [inR .i64 (a.Y - b.Y)] (by kernel_rfl) hB ⟨(inR_i64 (by omega) (by omega)), trivial⟩ ?_
  refine ae_then ?_
  refine aw_seq ?_
  refine aw_reg [] [4] [] [I (((a.X - b.X) * (a.X - b.X)) + ((a.Y - b.Y) * (a.Y - b.Y)))] [] [inR .i64 ((a.X - b.X) * (a.X - b.X)), inR .i64 ((a.Y - b.Y) * (a.Y - b.Y)), inR .i64 (((a.X - b.X) * (a.X - b.X)) + ((a.Y - b.Y) * (a.Y - b.Y)))] (by kernel_rfl) hB ⟨(inR_i64 (by omega) (by omega)), (inR_i64 (by omega) (by omega)), (inR_i64 (by omega) (by omega)), trivial⟩ ?_
  refine ae_then ?_
  refine aw_ret ?_
  refine ae_ret hB (I (((a.X - b.X) * (a.X - b.X)) + ((a.Y - b.Y) * (a.Y - b.Y)))) (by kernel_rfl) (.inl (by first | rfl | (refine congrArg Bv ?_; simp [*]; done) | (refine congrArg Bv ?_; simp [*]; omega) | (refine congrArg Bv ?_; simp_all []; done) | (refine congrArg Bv ?_; simp_all []; omega))) rfl (fun _ => trivial)


-- spec.l05Root
theorem l05Root_ok (n : Int) (hn : 0 ≤ n ∧ n ≤ 1000000000000000) : Con Tryz.prog 96 [I n] true (I (rootI n)) := by
  refine fn_ok (fn := Tryz.f96) (nt := 23) Tryz.func96 rfl rfl rfl rfl (by simp [taggedL, tagged]) fun B hB => ?_
  refine aw_seq ?_
  refine aw_reg [] [0] [] [I n] [] [] (by kernel_rfl) hB trivial ?_
  refine ae_then ?_
  refine aw_seq ?_
  refine aw_reg [] [0, 3] [] [I n, I 0] [] [] (by kernel_rfl) hB trivial ?_
  refine ae_then ?_
  refine aw_seq ?_
  refine aw_reg [] [0, 3, 4] [] [I n, I 0, I 40000000] [] [] (by kernel_rfl) hB trivial ?_
  refine ae_then ?_
  refine aw_seq ?_
  refine aw_block ?_
  refine aw_loop (fun gn gσ => ∃ (low : Int) (high : Int), gn = ((high : Int) - low).toNat ∧ (0 ≤ low ∧ low ≤ high ∧ high ≤ 40000000) ∧ (low * low ≤ n) ∧ (n < (high + 1) * (high + 1)) ∧ gσ = mkS [(0, I n), (3, I low), (4, I high)] []) (((40000000 : Int) - 0).toNat) ⟨0, 40000000, rfl, (by omega), (by omega), (by omega), rfl⟩ (fun gn gσ hI => ?_)
  obtain ⟨low, high, rfl, hl0, hl1, hl2, rfl⟩ := hI
  have hmm := sq_le (a := (((low + high) + 1) / 2)) (b := 40000000) (by omega) (by omega)
  have hmz := sq_le (a := 0) (b := (((low + high) + 1) / 2)) (by omega) (by omega)
  refine aw_seq ?_
  refine aw_seq ?_
  by_cases h1 : low < high
  ·refine aw_reg [(2, .dec true)] [0, 3, 4, 8] [] [I n, I low, I high, Bv true] [] [low < high] (by kernel_rfl) hB ⟨h1, trivial⟩ ?_
   refine ae_then ?_
   refine aw_true rfl ?_
   refine aw_skip ?_
   refine ae_then ?_
   refine aw_block ?_
   refine aw_seq ?_
   refine aw_reg [(4, .nn)] [0, 3, 4, 5] [] [I n, I low, I high, I (((low + high) + 1) / 2)] [] [inR .i64 (low + high), inR .i64 ((low + high) + 1), (0 : Int) ≤ ((low + high) + 1) ∧ (0 : Int) < 2 ∧ inR .i64 ((low + high) + 1)] (by kernel_rfl) hB ⟨(inR_i64 (by omega) (by omega)), (inR_i64 (by omega) (by omega)), ⟨(by omega), (by omega), (inR_i64 (by omega) (by omega))⟩, trivial⟩ ?_
   refine ae_then ?_
   refine aw_seq ?_
   by_cases h2 : ((((low + high) + 1) / 2) * (((low + high) + 1) / 2)) ≤ n
   ·refine aw_reg [(4, .dec true)] [0, 3, 4, 5, 18] [] [I n, I low, I high, I (((low + high) + 1) / 2), Bv true] [] [inR .i64 ((((low + high) + 1) / 2) * (((low + high) + 1) / 2)), ((((low + high) + 1) / 2) * (((low + high) + 1) / 2)) ≤ n] (by kernel_rfl) hB ⟨(inR_i64 (by omega) (by omega)), h2, trivial⟩ ?_
    refine ae_then ?_
    refine aw_true rfl ?_
    refine aw_reg [] [0, 3, 4] [] [I n, I (((low + high) + 1) / 2), I high] [] [] (by kernel_rfl) hB trivial ?_
    refine ae_block 1 ?_
    exact ae_again _ (by omega) ⟨(((low + high) + 1) / 2), high, rfl, (by omega), (by omega), (by first | omega | (rw [show ∀ x : Int, x - 1 + 1 = x from fun x => by omega]; omega)), rfl⟩
   ·refine aw_reg [(4, .dec false)] [0, 3, 4, 5, 18] [] [I n, I low, I high, I (((low + high) + 1) / 2), Bv false] [] [inR .i64 ((((low + high) + 1) / 2) * (((low + high) + 1) / 2)), ¬ (((((low + high) + 1) / 2) * (((low + high) + 1) / 2)) ≤ n)] (by kernel_rfl) hB ⟨(inR_i64 (by omega) (by omega)), h2, trivial⟩ ?_
    refine ae_then ?_
    refine aw_false rfl ?_
    refine aw_reg [] [0, 3, 4] [] [I n, I low, I ((((low + high) + 1) / 2) - 1)] [] [inR .i64 ((((low + high) + 1) / 2) - 1)] (by kernel_rfl) hB ⟨(inR_i64 (by omega) (by omega)), trivial⟩ ?_
    refine ae_block 1 ?_
    exact ae_again _ (by omega) ⟨low, ((((low + high) + 1) / 2) - 1), rfl, (by omega), (by omega), (by first | omega | (rw [show ∀ x : Int, x - 1 + 1 = x from fun x => by omega]; omega)), rfl⟩
  ·refine aw_reg [(2, .dec false)] [0, 3, 4, 8] [] [I n, I low, I high, Bv false] [] [¬ (low < high)] (by kernel_rfl) hB ⟨h1, trivial⟩ ?_
   refine ae_then ?_
   refine aw_false rfl ?_
   refine aw_exit ?_
   refine ae_exit_then ?_
   refine ae_exit_then ?_
   refine ae_exit_same ?_
   refine ae_then ?_
   refine aw_seq ?_
   refine aw_reg [] [2] [] [I low] [] [] (by kernel_rfl) hB trivial ?_
   refine ae_then ?_
   refine aw_ret ?_
   refine ae_ret hB (I low) (by kernel_rfl) (.inl (by exact congrArg I (Eq.symm (rootI_eq hl0.1 hl1 (by have e : high = low := (by omega); rw [e] at hl2; exact hl2))))) rfl (fun _ => trivial)


-- spec.l05Length
theorem l05Length_ok (a : Point) (b : Point) (ha : okP a = true) (hb : okP b = true) : Con Tryz.prog 74 [agPoint a, agPoint b] true (I (segI a b)) := by
  have ha' := okP_iff.1 ha
  have hb' := okP_iff.1 hb
  have hfb := far_bd ha hb
  have hlb := segI_bd ha hb
  refine fn_ok (fn := Tryz.f74) (nt := 10) Tryz.func74 rfl rfl rfl rfl (by simp [taggedL, tagged]) fun B hB => ?_
  refine aw_seq ?_
  refine aw_reg [(0, .new 2), (1, .new 3)] [2, 3] [2, 3] [.ref 2 0, .ref 3 0] [some (bxPoint a), some (bxPoint b)] [] (by kernel_rfl) hB trivial ?_
  refine ae_then ?_
  refine aw_seq ?_
  refine aw_reg [(2, .call [(true, agPoint a), (true, agPoint b)] true (I (farI a b))), (4, .call [(true, I (256 * (farI a b)))] true (I (rootI (256 * (farI a b)))))] [4] [] [I (rootI (256 * (farI a b)))] [] [Con Tryz.prog 97 [agPoint a, agPoint b] true (I (farI a b)) ∧ ((agPoint a : AV) = agPoint a) ∧ ((agPoint b : AV) = agPoint b) ∧ True, inR .i64 (256 * (farI a b)), Con Tryz.prog 96 [I (256 * (farI a b))] true (I (rootI (256 * (farI a b)))) ∧ ((I (256 * (farI a b)) : AV) = I (256 * (farI a b))) ∧ True] (by kernel_rfl) hB ⟨⟨(l05Far_ok a b ha hb), rfl, rfl, trivial⟩, (inR_i64 (by omega) (by omega)), ⟨(l05Root_ok (256 * (farI a b)) (by omega)), rfl, trivial⟩, trivial⟩ ?_
  refine ae_then ?_
  refine aw_ret ?_
  refine ae_ret hB (I (rootI (256 * (farI a b)))) (by kernel_rfl) (.inl (by first | rfl | (refine congrArg Bv ?_; simp [*]; done) | (refine congrArg Bv ?_; simp [*]; omega) | (refine congrArg Bv ?_; simp_all []; done) | (refine congrArg Bv ?_; simp_all []; omega))) rfl (fun _ => trivial)


-- spec.l05Sum
theorem l05Sum_ok (s : Stroke) (ok : okStroke' s = true) : Con Tryz.prog 70 [.ptr false [slPoint false s.Points]] true (I (sumS s.Points s.Points.length)) := by
  have hln := okS_len ok
  refine fn_ok (fn := Tryz.f70) (nt := 33) Tryz.func70 rfl rfl rfl rfl (by simp [taggedL, tagged, tagPoint]) fun B hB => ?_
  refine aw_lens (x := .ptr false [slPoint false s.Points]) 0 rfl (fun len_s => ?_)
  simp [LenOK, LenL, cPoint, fPoint, slPoint] at len_s
  refine aw_seq ?_
  refine aw_reg [] [0] [] [.ptr false [slPoint false s.Points]] [] [] (by kernel_rfl) hB trivial ?_
  refine ae_then ?_
  refine aw_seq ?_
  refine aw_reg [] [0, 3] [] [.ptr false [slPoint false s.Points], I 0] [] [] (by kernel_rfl) hB trivial ?_
  refine ae_then ?_
  refine aw_seq ?_
  refine aw_seq ?_
  refine aw_reg [] [0, 3, 4] [] [.ptr false [slPoint false s.Points], I 0, I 1] [] [] (by kernel_rfl) hB trivial ?_
  refine ae_then ?_
  refine aw_block ?_
  refine aw_loop (fun gn gσ => ∃ (sum : Int) (i : Int), gn = ((s.Points.length : Int) - i).toNat ∧ (1 ≤ i ∧ i ≤ (s.Points.length : Int)) ∧ (sum = sumS s.Points i.toNat) ∧ (0 ≤ sum ∧ sum ≤ 92659 * (i - 1)) ∧ gσ = mkS [(0, .ptr false [slPoint false s.Points]), (3, I sum), (4, I i)] []) (((s.Points.length : Int) - 1).toNat) ⟨0, 1, rfl, (by omega), (by rfl), (by omega), rfl⟩ (fun gn gσ hI => ?_)
  obtain ⟨sum, i, rfl, hi0, hs0, hs1, rfl⟩ := hI
  refine aw_seq ?_
  refine aw_seq ?_
  by_cases h1 : i < (s.Points.length : Int)
  ·have hi : i.toNat < s.Points.length := by omega
   have hi2 : (i - 1).toNat < s.Points.length := by omega
   have hp1 := okS_at ok hi2
   have hp2 := okS_at ok hi
   have hlb := segI_bd hp1 hp2
   refine aw_reg [(6, .dec true)] [0, 3, 4, 11] [] [.ptr false [slPoint false s.Points], I sum, I i, Bv true] [] [i < (s.Points.length : Int)] (by kernel_rfl) hB ⟨h1, trivial⟩ ?_
   refine ae_then ?_
   refine aw_true rfl ?_
   refine aw_skip ?_
   refine ae_then ?_
   refine aw_seq ?_
   refine aw_block ?_
   refine aw_reg [(16, .call [(true, agPoint (at_ s.Points ((i - 1).toNat))), (true, agPoint (at_ s.Points i.toNat))] true (I (segI (at_ s.Points ((i - 1).toNat)) (at_ s.Points i.toNat))))] [0, 3, 4] [] [.ptr false [slPoint false s.Points], I (sum + (segI (at_ s.Points ((i - 1).toNat)) (at_ s.Points i.toNat))), I i] [] [inR .i64 (i - 1), (0 : Int) ≤ (i - 1) ∧ (i - 1) < (s.Points.length : Int), (0 : Int) ≤ i ∧ i < (s.Points.length : Int), Con Tryz.prog 74 [agPoint (at_ s.Points ((i - 1).toNat)), agPoint (at_ s.Points i.toNat)] true (I (segI (at_ s.Points ((i - 1).toNat)) (at_ s.Points i.toNat))) ∧ ((agPoint (at_ s.Points ((i - 1).toNat)) : AV) = agPoint (at_ s.Points ((i - 1).toNat))) ∧ ((agPoint (at_ s.Points i.toNat) : AV) = agPoint (at_ s.Points i.toNat)) ∧ True, inR .i64 (sum + (segI (at_ s.Points ((i - 1).toNat)) (at_ s.Points i.toNat)))] (by kernel_rfl) hB ⟨(inR_i64 (by omega) (by omega)), ⟨(by omega), (by omega)⟩, ⟨(by omega), (by omega)⟩, ⟨(l05Length_ok (at_ s.Points ((i - 1).toNat)) (at_ s.Points i.toNat) hp1 hp2), rfl, rfl, trivial⟩, (inR_i64 (by omega) (by omega)), trivial⟩ ?_
   refine ae_block 1 ?_
   refine ae_then ?_
   refine aw_reg [] [0, 3, 4] [] [.ptr false [slPoint false s.Points], I (sum + (segI (at_ s.Points ((i - 1).toNat)) (at_ s.Points i.toNat))), I (i + 1)] [] [inR .i64 (i + 1)] (by kernel_rfl) hB ⟨(inR_i64 (by omega) (by omega)), trivial⟩ ?_
   exact ae_again _ (by omega) ⟨(sum + (segI (at_ s.Points ((i - 1).toNat)) (at_ s.Points i.toNat))), (i + 1), rfl, (by omega), (by rw [sumS_succ hi0.1, ← hs0]), (by omega), rfl⟩
  ·have hie : i.toNat = s.Points.length := by omega
   rw [hie] at hs0
   refine aw_reg [(6, .dec false)] [0, 3, 4, 11] [] [.ptr false [slPoint false s.Points], I sum, I i, Bv false] [] [¬ (i < (s.Points.length : Int))] (by kernel_rfl) hB ⟨h1, trivial⟩ ?_
   refine ae_then ?_
   refine aw_false rfl ?_
   refine aw_exit ?_
   refine ae_exit_then ?_
   refine ae_exit_then ?_
   refine ae_exit_same ?_
   refine ae_then ?_
   refine aw_seq ?_
   refine aw_reg [] [2] [] [I sum] [] [] (by kernel_rfl) hB trivial ?_
   refine ae_then ?_
   refine aw_ret ?_
   refine ae_ret hB (I sum) (by kernel_rfl) (.inl (by rw [hs0])) rfl (fun _ => trivial)


-- spec.l23Reversals
theorem l23Reversals_ok (s : Stroke) (ok : okStroke' s = true) : Con Tryz.prog 38 [.ptr false [slPoint false s.Points]] true (I ((revS s.Points s.Points.length).1)) := by
  have hln := okS_len ok
  refine fn_ok (fn := Tryz.f38) (nt := 49) Tryz.func38 rfl rfl rfl rfl (by simp [taggedL, tagged, tagPoint]) fun B hB => ?_
  refine aw_lens (x := .ptr false [slPoint false s.Points]) 0 rfl (fun len_s => ?_)
  simp [LenOK, LenL, cPoint, fPoint, slPoint] at len_s
  refine aw_seq ?_
  refine aw_reg [] [0] [] [.ptr false [slPoint false s.Points]] [] [] (by kernel_rfl) hB trivial ?_
  refine ae_then ?_
  refine aw_seq ?_
  refine aw_reg [] [0, 3] [] [.ptr false [slPoint false s.Points], I 0] [] [] (by kernel_rfl) hB trivial ?_
  refine ae_then ?_
  refine aw_seq ?_
  refine aw_reg [] [0, 3, 4] [] [.ptr false [slPoint false s.Points], I 0, I 0] [] [] (by kernel_rfl) hB trivial ?_
  refine ae_then ?_
  refine aw_seq ?_
  refine aw_seq ?_
  refine aw_reg [] [0, 3, 4, 5] [] [.ptr false [slPoint false s.Points], I 0, I 0, I 1] [] [] (by kernel_rfl) hB trivial ?_
  refine ae_then ?_
  refine aw_block ?_
  refine aw_loop (fun gn gσ => ∃ (n : Int) (last : Int) (i : Int), gn = ((s.Points.length : Int) - i).toNat ∧ (1 ≤ i ∧ i ≤ (s.Points.length : Int)) ∧ (n = (revS s.Points i.toNat).1) ∧ (last = (revS s.Points i.toNat).2) ∧ (0 ≤ n ∧ n ≤ i) ∧ gσ = mkS [(0, .ptr false [slPoint false s.Points]), (3, I n), (4, I last), (5, I i)] []) (((s.Points.length : Int) - 1).toNat) ⟨0, 0, 1, rfl, (by omega), (by rfl), (by rfl), (by omega), rfl⟩ (fun gn gσ hI => ?_)
  obtain ⟨n, last, i, rfl, hi0, hr1, hr2, hr3, rfl⟩ := hI
  refine aw_seq ?_
  refine aw_seq ?_
  by_cases h1 : i < (s.Points.length : Int)
  ·have hi : i.toNat < s.Points.length := by omega
   have hi2 : (i - 1).toNat < s.Points.length := by omega
   have hp1 := okP_iff.1 (okS_at ok hi2)
   have hp2 := okP_iff.1 (okS_at ok hi)
   refine aw_reg [(6, .dec true)] [0, 3, 4, 5, 13] [] [.ptr false [slPoint false s.Points], I n, I last, I i, Bv true] [] [i < (s.Points.length : Int)] (by kernel_rfl) hB ⟨h1, trivial⟩ ?_
   refine ae_then ?_
   refine aw_true rfl ?_
   refine aw_skip ?_
   refine ae_then ?_
   refine aw_seq ?_
   refine aw_block ?_
   refine aw_seq ?_
   refine aw_reg [] [0, 3, 4, 5, 6] [] [.ptr false [slPoint false s.Points], I n, I last, I i, I (((at_ s.Points i.toNat).X) - ((at_ s.Points ((i - 1).toNat)).X))] [] [(0 : Int) ≤ i ∧ i < (s.Points.length : Int), inR .i64 (i - 1), (0 : Int) ≤ (i - 1) ∧ (i - 1) < (s.Points.length : Int), inR .i64 (((at_ s.Points i.toNat).X) - ((at_ s.Points ((i - 1).toNat)).X))] (by kernel_rfl) hB ⟨⟨(by omega), (by omega)⟩, (inR_i64 (by omega) (by omega)), ⟨(by omega), (by omega)⟩, (inR_i64 (by omega) (by omega)), trivial⟩ ?_
   refine ae_then ?_
   refine aw_seq ?_
   refine aw_seq ?_
   by_cases h2 : (((at_ s.Points i.toNat).X) - ((at_ s.Points ((i - 1).toNat)).X)) = 0
   ·refine aw_reg [(1, .dec true)] [0, 3, 4, 5, 6, 35] [] [.ptr false [slPoint false s.Points], I n, I last, I i, I (((at_ s.Points i.toNat).X) - ((at_ s.Points ((i - 1).toNat)).X)), Bv true] [] [(((at_ s.Points i.toNat).X) - ((at_ s.Points ((i - 1).toNat)).X)) = 0] (by kernel_rfl) hB ⟨h2, trivial⟩ ?_
    refine ae_then ?_
    refine aw_true rfl ?_
    refine aw_exit ?_
    refine ae_exit_then ?_
    refine ae_exit_same ?_
    refine ae_then ?_
    refine aw_reg [] [0, 3, 4, 5] [] [.ptr false [slPoint false s.Points], I n, I last, I (i + 1)] [] [inR .i64 (i + 1)] (by kernel_rfl) hB ⟨(inR_i64 (by omega) (by omega)), trivial⟩ ?_
    exact ae_again _ (by omega) ⟨n, last, (i + 1), rfl, (by omega), (by rw [revS_1 hi0.1, ← hr1, ← hr2]; omega), (by rw [revS_2 hi0.1, ← hr2]; omega), (by omega), rfl⟩
   ·refine aw_reg [(1, .dec false)] [0, 3, 4, 5, 6, 35] [] [.ptr false [slPoint false s.Points], I n, I last, I i, I (((at_ s.Points i.toNat).X) - ((at_ s.Points ((i - 1).toNat)).X)), Bv false] [] [¬ ((((at_ s.Points i.toNat).X) - ((at_ s.Points ((i - 1).toNat)).X)) = 0)] (by kernel_rfl) hB ⟨h2, trivial⟩ ?_
    refine ae_then ?_
    refine aw_false rfl ?_
    refine aw_skip ?_
    refine ae_then ?_
    refine aw_seq ?_
    refine aw_seq ?_
    by_cases h3 : last = 0
    ·refine aw_reg [(1, .dec false)] [0, 3, 5, 6, 44] [] [.ptr false [slPoint false s.Points], I n, I i, I (((at_ s.Points i.toNat).X) - ((at_ s.Points ((i - 1).toNat)).X)), Bv false] [] [¬ (last ≠ 0)] (by kernel_rfl) hB ⟨(fun hq => hq h3), trivial⟩ ?_
     refine ae_then ?_
     refine aw_false rfl ?_
     refine aw_skip ?_
     refine ae_then ?_
     refine aw_reg [] [0, 3, 4, 5] [] [.ptr false [slPoint false s.Points], I n, I (((at_ s.Points i.toNat).X) - ((at_ s.Points ((i - 1).toNat)).X)), I i] [] [] (by kernel_rfl) hB trivial ?_
     refine ae_block 1 ?_
     refine ae_then ?_
     refine aw_reg [] [0, 3, 4, 5] [] [.ptr false [slPoint false s.Points], I n, I (((at_ s.Points i.toNat).X) - ((at_ s.Points ((i - 1).toNat)).X)), I (i + 1)] [] [inR .i64 (i + 1)] (by kernel_rfl) hB ⟨(inR_i64 (by omega) (by omega)), trivial⟩ ?_
     exact ae_again _ (by omega) ⟨n, (((at_ s.Points i.toNat).X) - ((at_ s.Points ((i - 1).toNat)).X)), (i + 1), rfl, (by omega), (by rw [revS_1 hi0.1, ← hr1, ← hr2]; omega), (by rw [revS_2 hi0.1, ← hr2]; omega), (by omega), rfl⟩
    ·by_cases h4 : 0 < (((at_ s.Points i.toNat).X) - ((at_ s.Points ((i - 1).toNat)).X))
     ·by_cases h5 : 0 < last
      ·refine aw_reg [(1, .dec true), (4, .dec true), (6, .dec true)] [0, 3, 5, 6, 44] [] [.ptr false [slPoint false s.Points], I n, I i, I (((at_ s.Points i.toNat).X) - ((at_ s.Points ((i - 1).toNat)).X)), Bv false] [] [last ≠ 0, 0 < (((at_ s.Points i.toNat).X) - ((at_ s.Points ((i - 1).toNat)).X)), 0 < last] (by kernel_rfl) hB ⟨h3, h4, h5, trivial⟩ ?_
       refine ae_then ?_
       refine aw_false rfl ?_
       refine aw_skip ?_
       refine ae_then ?_
       refine aw_reg [] [0, 3, 4, 5] [] [.ptr false [slPoint false s.Points], I n, I (((at_ s.Points i.toNat).X) - ((at_ s.Points ((i - 1).toNat)).X)), I i] [] [] (by kernel_rfl) hB trivial ?_
       refine ae_block 1 ?_
       refine ae_then ?_
       refine aw_reg [] [0, 3, 4, 5] [] [.ptr false [slPoint false s.Points], I n, I (((at_ s.Points i.toNat).X) - ((at_ s.Points ((i - 1).toNat)).X)), I (i + 1)] [] [inR .i64 (i + 1)] (by kernel_rfl) hB ⟨(inR_i64 (by omega) (by omega)), trivial⟩ ?_
       exact ae_again _ (by omega) ⟨n, (((at_ s.Points i.toNat).X) - ((at_ s.Points ((i - 1).toNat)).X)), (i + 1), rfl, (by omega), (by rw [revS_1 hi0.1, ← hr1, ← hr2]; omega), (by rw [revS_2 hi0.1, ← hr2]; omega), (by omega), rfl⟩
      ·refine aw_reg [(1, .dec true), (4, .dec true), (6, .dec false)] [0, 3, 5, 6, 44] [] [.ptr false [slPoint false s.Points], I n, I i, I (((at_ s.Points i.toNat).X) - ((at_ s.Points ((i - 1).toNat)).X)), Bv true] [] [last ≠ 0, 0 < (((at_ s.Points i.toNat).X) - ((at_ s.Points ((i - 1).toNat)).X)), ¬ (0 < last)] (by kernel_rfl) hB ⟨h3, h4, h5, trivial⟩ ?_
       refine ae_then ?_
       refine aw_true rfl ?_
       refine aw_reg [] [0, 3, 5, 6] [] [.ptr false [slPoint false s.Points], I (n + 1), I i, I (((at_ s.Points i.toNat).X) - ((at_ s.Points ((i - 1).toNat)).X))] [] [inR .i64 (n + 1)] (by kernel_rfl) hB ⟨(inR_i64 (by omega) (by omega)), trivial⟩ ?_
       refine ae_then ?_
       refine aw_reg [] [0, 3, 4, 5] [] [.ptr false [slPoint false s.Points], I (n + 1), I (((at_ s.Points i.toNat).X) - ((at_ s.Points ((i - 1).toNat)).X)), I i] [] [] (by kernel_rfl) hB trivial ?_
       refine ae_block 1 ?_
       refine ae_then ?_
       refine aw_reg [] [0, 3, 4, 5] [] [.ptr false [slPoint false s.Points], I (n + 1), I (((at_ s.Points i.toNat).X) - ((at_ s.Points ((i - 1).toNat)).X)), I (i + 1)] [] [inR .i64 (i + 1)] (by kernel_rfl) hB ⟨(inR_i64 (by omega) (by omega)), trivial⟩ ?_
       exact ae_again _ (by omega) ⟨(n + 1), (((at_ s.Points i.toNat).X) - ((at_ s.Points ((i - 1).toNat)).X)), (i + 1), rfl, (by omega), (by rw [revS_1 hi0.1, ← hr1, ← hr2]; omega), (by rw [revS_2 hi0.1, ← hr2]; omega), (by omega), rfl⟩
     ·by_cases h6 : 0 < last
      ·refine aw_reg [(1, .dec true), (4, .dec false), (6, .dec true)] [0, 3, 5, 6, 44] [] [.ptr false [slPoint false s.Points], I n, I i, I (((at_ s.Points i.toNat).X) - ((at_ s.Points ((i - 1).toNat)).X)), Bv true] [] [last ≠ 0, ¬ (0 < (((at_ s.Points i.toNat).X) - ((at_ s.Points ((i - 1).toNat)).X))), 0 < last] (by kernel_rfl) hB ⟨h3, h4, h6, trivial⟩ ?_
       refine ae_then ?_
       refine aw_true rfl ?_
       refine aw_reg [] [0, 3, 5, 6] [] [.ptr false [slPoint false s.Points], I (n + 1), I i, I (((at_ s.Points i.toNat).X) - ((at_ s.Points ((i - 1).toNat)).X))] [] [inR .i64 (n + 1)] (by kernel_rfl) hB ⟨(inR_i64 (by omega) (by omega)), trivial⟩ ?_
       refine ae_then ?_
       refine aw_reg [] [0, 3, 4, 5] [] [.ptr false [slPoint false s.Points], I (n + 1), I (((at_ s.Points i.toNat).X) - ((at_ s.Points ((i - 1).toNat)).X)), I i] [] [] (by kernel_rfl) hB trivial ?_
       refine ae_block 1 ?_
       refine ae_then ?_
       refine aw_reg [] [0, 3, 4, 5] [] [.ptr false [slPoint false s.Points], I (n + 1), I (((at_ s.Points i.toNat).X) - ((at_ s.Points ((i - 1).toNat)).X)), I (i + 1)] [] [inR .i64 (i + 1)] (by kernel_rfl) hB ⟨(inR_i64 (by omega) (by omega)), trivial⟩ ?_
       exact ae_again _ (by omega) ⟨(n + 1), (((at_ s.Points i.toNat).X) - ((at_ s.Points ((i - 1).toNat)).X)), (i + 1), rfl, (by omega), (by rw [revS_1 hi0.1, ← hr1, ← hr2]; omega), (by rw [revS_2 hi0.1, ← hr2]; omega), (by omega), rfl⟩
      ·refine aw_reg [(1, .dec true), (4, .dec false), (6, .dec false)] [0, 3, 5, 6, 44] [] [.ptr false [slPoint false s.Points], I n, I i, I (((at_ s.Points i.toNat).X) - ((at_ s.Points ((i - 1).toNat)).X)), Bv false] [] [last ≠ 0, ¬ (0 < (((at_ s.Points i.toNat).X) - ((at_ s.Points ((i - 1).toNat)).X))), ¬ (0 < last)] (by kernel_rfl) hB ⟨h3, h4, h6, trivial⟩ ?_
       refine ae_then ?_
       refine aw_false rfl ?_
       refine aw_skip ?_
       refine ae_then ?_
       refine aw_reg [] [0, 3, 4, 5] [] [.ptr false [slPoint false s.Points], I n, I (((at_ s.Points i.toNat).X) - ((at_ s.Points ((i - 1).toNat)).X)), I i] [] [] (by kernel_rfl) hB trivial ?_
       refine ae_block 1 ?_
       refine ae_then ?_
       refine aw_reg [] [0, 3, 4, 5] [] [.ptr false [slPoint false s.Points], I n, I (((at_ s.Points i.toNat).X) - ((at_ s.Points ((i - 1).toNat)).X)), I (i + 1)] [] [inR .i64 (i + 1)] (by kernel_rfl) hB ⟨(inR_i64 (by omega) (by omega)), trivial⟩ ?_
       exact ae_again _ (by omega) ⟨n, (((at_ s.Points i.toNat).X) - ((at_ s.Points ((i - 1).toNat)).X)), (i + 1), rfl, (by omega), (by rw [revS_1 hi0.1, ← hr1, ← hr2]; omega), (by rw [revS_2 hi0.1, ← hr2]; omega), (by omega), rfl⟩
  ·have hie : i.toNat = s.Points.length := by omega
   rw [hie] at hr1
   refine aw_reg [(6, .dec false)] [0, 3, 4, 5, 13] [] [.ptr false [slPoint false s.Points], I n, I last, I i, Bv false] [] [¬ (i < (s.Points.length : Int))] (by kernel_rfl) hB ⟨h1, trivial⟩ ?_
   refine ae_then ?_
   refine aw_false rfl ?_
   refine aw_exit ?_
   refine ae_exit_then ?_
   refine ae_exit_then ?_
   refine ae_exit_same ?_
   refine ae_then ?_
   refine aw_seq ?_
   refine aw_reg [] [2] [] [I n] [] [] (by kernel_rfl) hB trivial ?_
   refine ae_then ?_
   refine aw_ret ?_
   refine ae_ret hB (I n) (by kernel_rfl) (.inl (by rw [hr1])) rfl (fun _ => trivial)


-- spec.l05Size
theorem l05Size_ok (n : Int) (hn : -9223372036854775807 ≤ n ∧ n ≤ 9223372036854775807) : Con Tryz.prog 73 [I n] true (I (n.natAbs : Int)) := by
  refine fn_ok (fn := Tryz.f73) (nt := 8) Tryz.func73 rfl rfl rfl rfl (by simp [taggedL, tagged]) fun B hB => ?_
  refine aw_seq ?_
  refine aw_reg [] [0] [] [I n] [] [] (by kernel_rfl) hB trivial ?_
  refine ae_then ?_
  refine aw_seq ?_
  refine aw_seq ?_
  by_cases h1 : n < 0
  ·refine aw_reg [(1, .dec true)] [0, 4] [] [I n, Bv true] [] [n < 0] (by kernel_rfl) hB ⟨h1, trivial⟩ ?_
   refine ae_then ?_
   refine aw_true rfl ?_
   refine aw_seq ?_
   refine aw_reg [] [2] [] [I (-n)] [] [inR .i64 (-n)] (by kernel_rfl) hB ⟨(inR_i64 (by omega) (by omega)), trivial⟩ ?_
   refine ae_then ?_
   refine aw_ret ?_
   refine ae_ret_then ?_
   refine ae_ret hB (I (-n)) (by kernel_rfl) (.inl (by refine congrArg I ?_; omega)) rfl (fun _ => trivial)
  ·refine aw_reg [(1, .dec false)] [0, 4] [] [I n, Bv false] [] [¬ (n < 0)] (by kernel_rfl) hB ⟨h1, trivial⟩ ?_
   refine ae_then ?_
   refine aw_false rfl ?_
   refine aw_skip ?_
   refine ae_then ?_
   refine aw_seq ?_
   refine aw_reg [] [2] [] [I n] [] [] (by kernel_rfl) hB trivial ?_
   refine ae_then ?_
   refine aw_ret ?_
   refine ae_ret hB (I n) (by kernel_rfl) (.inl (by refine congrArg I ?_; omega)) rfl (fun _ => trivial)


-- spec.l05Sector
theorem l05Sector_ok (dx : Int) (dy : Int) (hd : (-4095 ≤ dx ∧ dx ≤ 4095) ∧ -4095 ≤ dy ∧ dy ≤ 4095) : Con Tryz.prog 95 [I dx, I dy] true (I (dirI dx dy)) := by
  have hx2 := two_sq (x := (dx.natAbs : Int)) (by omega) (by omega)
  have hy2 := two_sq (x := (dy.natAbs : Int)) (by omega) (by omega)
  have hs2 := sq_bd (x := (dx.natAbs : Int) + (dy.natAbs : Int)) (B := 8190) (by omega) (by omega)
  have hz := @dir_zero dx dy
  refine fn_ok (fn := Tryz.f95) (nt := 54) Tryz.func95 rfl rfl rfl rfl (by simp [taggedL, tagged]) fun B hB => ?_
  refine aw_seq ?_
  refine aw_reg [] [0, 1] [] [I dx, I dy] [] [] (by kernel_rfl) hB trivial ?_
  refine ae_then ?_
  refine aw_seq ?_
  refine aw_reg [(1, .call [(true, I dx)] true (I (dx.natAbs : Int)))] [0, 1, 5] [] [I dx, I dy, I (dx.natAbs : Int)] [] [Con Tryz.prog 73 [I dx] true (I (dx.natAbs : Int)) ∧ ((I dx : AV) = I dx) ∧ True] (by kernel_rfl) hB ⟨⟨(l05Size_ok dx (by omega)), rfl, trivial⟩, trivial⟩ ?_
  refine ae_then ?_
  refine aw_seq ?_
  refine aw_reg [(1, .call [(true, I dy)] true (I (dy.natAbs : Int)))] [0, 1, 5, 6] [] [I dx, I dy, I (dx.natAbs : Int), I (dy.natAbs : Int)] [] [Con Tryz.prog 73 [I dy] true (I (dy.natAbs : Int)) ∧ ((I dy : AV) = I dy) ∧ True] (by kernel_rfl) hB ⟨⟨(l05Size_ok dy (by omega)), rfl, trivial⟩, trivial⟩ ?_
  refine ae_then ?_
  refine aw_seq ?_
  refine aw_reg [] [0, 1, 5, 6, 7] [] [I dx, I dy, I (dx.natAbs : Int), I (dy.natAbs : Int), I (((dx.natAbs : Int) + (dy.natAbs : Int)) * ((dx.natAbs : Int) + (dy.natAbs : Int)))] [] [inR .i64 ((dx.natAbs : Int) + (dy.natAbs : Int)), inR .i64 ((dx.natAbs : Int) + (dy.natAbs : Int)), inR .i64 (((dx.natAbs : Int) + (dy.natAbs : Int)) * ((dx.natAbs : Int) + (dy.natAbs : Int)))] (by kernel_rfl) hB ⟨(inR_i64 (by omega) (by omega)), (inR_i64 (by omega) (by omega)), (inR_i64 (by omega) (by omega)), trivial⟩ ?_
  refine ae_then ?_
  refine aw_seq ?_
  refine aw_block ?_
  refine aw_seq ?_
  by_cases h1 : (((dx.natAbs : Int) + (dy.natAbs : Int)) * ((dx.natAbs : Int) + (dy.natAbs : Int))) ≤ ((2 * (dx.natAbs : Int)) * (dx.natAbs : Int))
  ·refine aw_reg [(5, .dec true)] [0, 1, 6, 7, 19] [] [I dx, I dy, I (dy.natAbs : Int), I (((dx.natAbs : Int) + (dy.natAbs : Int)) * ((dx.natAbs : Int) + (dy.natAbs : Int))), Bv true] [] [inR .i64 (2 * (dx.natAbs : Int)), inR .i64 ((2 * (dx.natAbs : Int)) * (dx.natAbs : Int)), (((dx.natAbs : Int) + (dy.natAbs : Int)) * ((dx.natAbs : Int) + (dy.natAbs : Int))) ≤ ((2 * (dx.natAbs : Int)) * (dx.natAbs : Int))] (by kernel_rfl) hB ⟨(inR_i64 (by omega) (by omega)), (inR_i64 (by omega) (by omega)), h1, trivial⟩ ?_
   refine ae_then ?_
   refine aw_true rfl ?_
   refine aw_seq ?_
   refine aw_seq ?_
   by_cases h2 : 0 < dx
   ·refine aw_reg [(1, .dec true)] [27] [] [Bv true] [] [0 < dx] (by kernel_rfl) hB ⟨h2, trivial⟩ ?_
    refine ae_then ?_
    refine aw_true rfl ?_
    refine aw_seq ?_
    refine aw_reg [] [4] [] [I 0] [] [] (by kernel_rfl) hB trivial ?_
    refine ae_then ?_
    refine aw_ret ?_
    refine ae_ret_then (ae_ret_block (ae_ret_then ?_))
    refine ae_ret hB (I 0) (by kernel_rfl) (.inl (by refine congrArg I ?_; unfold dirI; (repeat' split) <;> first | rfl | omega)) rfl (fun _ => trivial)
   ·refine aw_reg [(1, .dec false)] [27] [] [Bv false] [] [¬ (0 < dx)] (by kernel_rfl) hB ⟨h2, trivial⟩ ?_
    refine ae_then ?_
    refine aw_false rfl ?_
    refine aw_skip ?_
    refine ae_then ?_
    refine aw_seq ?_
    refine aw_reg [] [4] [] [I 4] [] [] (by kernel_rfl) hB trivial ?_
    refine ae_then ?_
    refine aw_ret ?_
    refine ae_ret_block (ae_ret_then ?_)
    refine ae_ret hB (I 4) (by kernel_rfl) (.inl (by refine congrArg I ?_; unfold dirI; (repeat' split) <;> first | rfl | omega)) rfl (fun _ => trivial)
  ·refine aw_reg [(5, .dec false)] [0, 1, 6, 7, 19] [] [I dx, I dy, I (dy.natAbs : Int), I (((dx.natAbs : Int) + (dy.natAbs : Int)) * ((dx.natAbs : Int) + (dy.natAbs : Int))), Bv false] [] [inR .i64 (2 * (dx.natAbs : Int)), inR .i64 ((2 * (dx.natAbs : Int)) * (dx.natAbs : Int)), ¬ ((((dx.natAbs : Int) + (dy.natAbs : Int)) * ((dx.natAbs : Int) + (dy.natAbs : Int))) ≤ ((2 * (dx.natAbs : Int)) * (dx.natAbs : Int)))] (by kernel_rfl) hB ⟨(inR_i64 (by omega) (by omega)), (inR_i64 (by omega) (by omega)), h1, trivial⟩ ?_
   refine ae_then ?_
   refine aw_false rfl ?_
   refine aw_seq ?_
   by_cases h3 : (((dx.natAbs : Int) + (dy.natAbs : Int)) * ((dx.natAbs : Int) + (dy.natAbs : Int))) ≤ ((2 * (dy.natAbs : Int)) * (dy.natAbs : Int))
   ·refine aw_reg [(5, .dec true)] [0, 1, 28] [] [I dx, I dy, Bv true] [] [inR .i64 (2 * (dy.natAbs : Int)), inR .i64 ((2 * (dy.natAbs : Int)) * (dy.natAbs : Int)), (((dx.natAbs : Int) + (dy.natAbs : Int)) * ((dx.natAbs : Int) + (dy.natAbs : Int))) ≤ ((2 * (dy.natAbs : Int)) * (dy.natAbs : Int))] (by kernel_rfl) hB ⟨(inR_i64 (by omega) (by omega)), (inR_i64 (by omega) (by omega)), h3, trivial⟩ ?_
    refine ae_then ?_
    refine aw_true rfl ?_
    refine aw_seq ?_
    refine aw_seq ?_
    by_cases h4 : 0 < dy
    ·refine aw_reg [(1, .dec true)] [36] [] [Bv true] [] [0 < dy] (by kernel_rfl) hB ⟨h4, trivial⟩ ?_
     refine ae_then ?_
     refine aw_true rfl ?_
     refine aw_seq ?_
     refine aw_reg [] [4] [] [I 2] [] [] (by kernel_rfl) hB trivial ?_
     refine ae_then ?_
     refine aw_ret ?_
     refine ae_ret_then (ae_ret_block (ae_ret_then ?_))
     refine ae_ret hB (I 2) (by kernel_rfl) (.inl (by refine congrArg I ?_; unfold dirI; (repeat' split) <;> first | rfl | omega)) rfl (fun _ => trivial)
    ·refine aw_reg [(1, .dec false)] [36] [] [Bv false] [] [¬ (0 < dy)] (by kernel_rfl) hB ⟨h4, trivial⟩ ?_
     refine ae_then ?_
     refine aw_false rfl ?_
     refine aw_skip ?_
     refine ae_then ?_
     refine aw_seq ?_
     refine aw_reg [] [4] [] [I 6] [] [] (by kernel_rfl) hB trivial ?_
     refine ae_then ?_
     refine aw_ret ?_
     refine ae_ret_block (ae_ret_then ?_)
     refine ae_ret hB (I 6) (by kernel_rfl) (.inl (by refine congrArg I ?_; unfold dirI; (repeat' split) <;> first | rfl | omega)) rfl (fun _ => trivial)
   ·refine aw_reg [(5, .dec false)] [0, 1, 28] [] [I dx, I dy, Bv false] [] [inR .i64 (2 * (dy.natAbs : Int)), inR .i64 ((2 * (dy.natAbs : Int)) * (dy.natAbs : Int)), ¬ ((((dx.natAbs : Int) + (dy.natAbs : Int)) * ((dx.natAbs : Int) + (dy.natAbs : Int))) ≤ ((2 * (dy.natAbs : Int)) * (dy.natAbs : Int)))] (by kernel_rfl) hB ⟨(inR_i64 (by omega) (by omega)), (inR_i64 (by omega) (by omega)), h3, trivial⟩ ?_
    refine ae_then ?_
    refine aw_false rfl ?_
    refine aw_seq ?_
    by_cases h5 : 0 < dx
    ·by_cases h6 : 0 < dy
     ·refine aw_reg [(1, .dec true), (4, .dec true)] [0, 1, 37] [] [I dx, I dy, Bv true] [] [0 < dx, 0 < dy] (by kernel_rfl) hB ⟨h5, h6, trivial⟩ ?_
      refine ae_then ?_
      refine aw_true rfl ?_
      refine aw_seq ?_
      refine aw_reg [] [4] [] [I 1] [] [] (by kernel_rfl) hB trivial ?_
      refine ae_then ?_
      refine aw_ret ?_
      refine ae_ret_block (ae_ret_then ?_)
      refine ae_ret hB (I 1) (by kernel_rfl) (.inl (by refine congrArg I ?_; unfold dirI; (repeat' split) <;> first | rfl | omega)) rfl (fun _ => trivial)
     ·refine aw_reg [(1, .dec true), (4, .dec false)] [0, 1, 37] [] [I dx, I dy, Bv false] [] [0 < dx, ¬ (0 < dy)] (by kernel_rfl) hB ⟨h5, h6, trivial⟩ ?_
      refine ae_then ?_
      refine aw_false rfl ?_
      refine aw_seq ?_
      by_cases h7 : dx < 0
      ·refine aw_reg [(1, .dec true), (4, .dec false)] [0, 44] [] [I dx, Bv false] [] [dx < 0, ¬ (0 < dy)] (by kernel_rfl) hB ⟨h7, h6, trivial⟩ ?_
       refine ae_then ?_
       refine aw_false rfl ?_
       refine aw_seq ?_
       refine aw_reg [(1, .dec true)] [51] [] [Bv true] [] [dx < 0] (by kernel_rfl) hB ⟨h7, trivial⟩ ?_
       refine ae_then ?_
       refine aw_true rfl ?_
       refine aw_seq ?_
       refine aw_reg [] [4] [] [I 5] [] [] (by kernel_rfl) hB trivial ?_
       refine ae_then ?_
       refine aw_ret ?_
       refine ae_ret_block (ae_ret_then ?_)
       refine ae_ret hB (I 5) (by kernel_rfl) (.inl (by refine congrArg I ?_; unfold dirI; (repeat' split) <;> first | rfl | omega)) rfl (fun _ => trivial)
      ·refine aw_reg [(1, .dec false)] [0, 44] [] [I dx, Bv false] [] [¬ (dx < 0)] (by kernel_rfl) hB ⟨h7, trivial⟩ ?_
       refine ae_then ?_
       refine aw_false rfl ?_
       refine aw_seq ?_
       refine aw_reg [(1, .dec false)] [51] [] [Bv false] [] [¬ (dx < 0)] (by kernel_rfl) hB ⟨h7, trivial⟩ ?_
       refine ae_then ?_
       refine aw_false rfl ?_
       refine aw_skip ?_
       refine ae_block 0 ?_
       refine ae_then ?_
       refine aw_seq ?_
       refine aw_reg [] [4] [] [I 7] [] [] (by kernel_rfl) hB trivial ?_
       refine ae_then ?_
       refine aw_ret ?_
       refine ae_ret hB (I 7) (by kernel_rfl) (.inl (by refine congrArg I ?_; unfold dirI; (repeat' split) <;> first | rfl | omega)) rfl (fun _ => trivial)
    ·refine aw_reg [(1, .dec false)] [0, 1, 37] [] [I dx, I dy, Bv false] [] [¬ (0 < dx)] (by kernel_rfl) hB ⟨h5, trivial⟩ ?_
     refine ae_then ?_
     refine aw_false rfl ?_
     refine aw_seq ?_
     by_cases h8 : dx < 0
     ·by_cases h9 : 0 < dy
      ·refine aw_reg [(1, .dec true), (4, .dec true)] [0, 44] [] [I dx, Bv true] [] [dx < 0, 0 < dy] (by kernel_rfl) hB ⟨h8, h9, trivial⟩ ?_
       refine ae_then ?_
       refine aw_true rfl ?_
       refine aw_seq ?_
       refine aw_reg [] [4] [] [I 3] [] [] (by kernel_rfl) hB trivial ?_
       refine ae_then ?_
       refine aw_ret ?_
       refine ae_ret_block (ae_ret_then ?_)
       refine ae_ret hB (I 3) (by kernel_rfl) (.inl (by refine congrArg I ?_; unfold dirI; (repeat' split) <;> first | rfl | omega)) rfl (fun _ => trivial)
      ·refine aw_reg [(1, .dec true), (4, .dec false)] [0, 44] [] [I dx, Bv false] [] [dx < 0, ¬ (0 < dy)] (by kernel_rfl) hB ⟨h8, h9, trivial⟩ ?_
       refine ae_then ?_
       refine aw_false rfl ?_
       refine aw_seq ?_
       refine aw_reg [(1, .dec true)] [51] [] [Bv true] [] [dx < 0] (by kernel_rfl) hB ⟨h8, trivial⟩ ?_
       refine ae_then ?_
       refine aw_true rfl ?_
       refine aw_seq ?_
       refine aw_reg [] [4] [] [I 5] [] [] (by kernel_rfl) hB trivial ?_
       refine ae_then ?_
       refine aw_ret ?_
       refine ae_ret_block (ae_ret_then ?_)
       refine ae_ret hB (I 5) (by kernel_rfl) (.inl (by refine congrArg I ?_; unfold dirI; (repeat' split) <;> first | rfl | omega)) rfl (fun _ => trivial)
     ·refine aw_reg [(1, .dec false)] [0, 44] [] [I dx, Bv false] [] [¬ (dx < 0)] (by kernel_rfl) hB ⟨h8, trivial⟩ ?_
      refine ae_then ?_
      refine aw_false rfl ?_
      refine aw_seq ?_
      refine aw_reg [(1, .dec false)] [51] [] [Bv false] [] [¬ (dx < 0)] (by kernel_rfl) hB ⟨h8, trivial⟩ ?_
      refine ae_then ?_
      refine aw_false rfl ?_
      refine aw_skip ?_
      refine ae_block 0 ?_
      refine ae_then ?_
      refine aw_seq ?_
      refine aw_reg [] [4] [] [I 7] [] [] (by kernel_rfl) hB trivial ?_
      refine ae_then ?_
      refine aw_ret ?_
      refine ae_ret hB (I 7) (by kernel_rfl) (.inl (by refine congrArg I ?_; unfold dirI; (repeat' split) <;> first | rfl | omega)) rfl (fun _ => trivial)


-- spec.l05Directions
theorem l05Directions_ok (s : Stroke) (ok : okStroke' s = true) : Con Tryz.prog 71 [.ptr false [slPoint false s.Points]] true (slI true (dirsL s.Points s.Points.length)) := by
  have hln := okS_len ok
  refine fn_ok (fn := Tryz.f71) (nt := 66) Tryz.func71 rfl rfl rfl rfl (by simp [taggedL, tagged, tagPoint]) fun B hB => ?_
  refine aw_lens (x := .ptr false [slPoint false s.Points]) 0 rfl (fun len_s => ?_)
  simp [LenOK, LenL, cPoint, fPoint, slPoint] at len_s
  refine aw_seq ?_
  refine aw_reg [] [0] [] [.ptr false [slPoint false s.Points]] [] [] (by kernel_rfl) hB trivial ?_
  refine ae_then ?_
  refine aw_seq ?_
  refine aw_reg [(0, .new 7)] [0, 3] [7] [.ptr false [slPoint false s.Points], .arr 7] [some (.arr 1 0 (litF [] 1))] [] (by kernel_rfl) hB trivial ?_
  refine ae_then ?_
  refine aw_seq ?_
  refine aw_seq ?_
  refine aw_reg [] [0, 3, 4] [7] [.ptr false [slPoint false s.Points], .arr 7, I 1] [some (.arr 1 0 (litF [] 1))] [] (by kernel_rfl) hB trivial ?_
  refine ae_then ?_
  refine aw_block ?_
  refine aw_weak hB [] (T := [(0, .ptr false [slPoint false s.Points]), (3, .arr 7), (4, I 1)]) (O := [(7, .arr 1 (([] : List Int).length) (fI ([] : List Int)))]) rfl (⟨.inl rfl, .inl rfl, .inl rfl, trivial⟩) (⟨.inr ⟨rfl, (by first | rfl | (simp; done) | (simp; omega) | omega), fun i hi => absurd hi (Nat.not_lt_zero _)⟩, trivial⟩) ?_
  refine aw_loop (fun gn gσ => ∃ (out : List Int) (i : Int), gn = ((s.Points.length : Int) - i).toNat ∧ (1 ≤ i ∧ (i ≤ (s.Points.length : Int) ∨ i = 1)) ∧ (out = dirsL s.Points i.toNat) ∧ gσ = mkS [(0, .ptr false [slPoint false s.Points]), (3, .arr 7), (4, I i)] [(7, .arr 1 out.length (fI out))]) (((s.Points.length : Int) - 1).toNat) ⟨([] : List Int), 1, rfl, (by omega), (by exact (dirsL_one _).symm), rfl⟩ (fun gn gσ hI => ?_)
  obtain ⟨out, i, rfl, hi0, hd0, rfl⟩ := hI
  refine aw_seq ?_
  refine aw_seq ?_
  by_cases h1 : i < (s.Points.length : Int)
  ·have hi : i.toNat < s.Points.length := by omega
   have hi2 : (i - 1).toNat < s.Points.length := by omega
   have hp1 := okP_iff.1 (okS_at ok hi2)
   have hp2 := okP_iff.1 (okS_at ok hi)
   have hbd := dirI_bd ((at_ s.Points i.toNat).X - (at_ s.Points (i - 1).toNat).X) ((at_ s.Points i.toNat).Y - (at_ s.Points (i - 1).toNat).Y)
   have hdl : out.length ≤ i.toNat := by rw [hd0]; exact dirsL_len _ _
   refine aw_reg [(6, .dec true)] [0, 3, 4, 14] [7] [.ptr false [slPoint false s.Points], .arr 7, I i, Bv true] [some (.arr 1 out.length (fI out))] [i < (s.Points.length : Int)] (by kernel_rfl) hB ⟨h1, trivial⟩ ?_
   refine ae_then ?_
   refine aw_true rfl ?_
   refine aw_skip ?_
   refine ae_then ?_
   refine aw_seq ?_
   refine aw_block ?_
   refine aw_seq ?_
   refine aw_reg [] [0, 3, 4, 5] [7] [.ptr false [slPoint false s.Points], .arr 7, I i, I (((at_ s.Points i.toNat).X) - ((at_ s.Points ((i - 1).toNat)).X))] [some (.arr 1 out.length (fI out))] [(0 : Int) ≤ i ∧ i < (s.Points.length : Int), inR .i64 (i - 1), (0 : Int) ≤ (i - 1) ∧ (i - 1) < (s.Points.length : Int), inR .i64 (((at_ s.Points i.toNat).X) - ((at_ s.Points ((i - 1).toNat)).X))] (by kernel_rfl) hB ⟨⟨(by omega), (by omega)⟩, (inR_i64 (by omega) (by omega)), ⟨(by omega), (by omega)⟩, (inR_i64 (by omega) (by omega)), trivial⟩ ?_
   refine ae_then ?_
   refine aw_seq ?_
   refine aw_reg [] [0, 3, 4, 5, 6] [7] [.ptr false [slPoint false s.Points], .arr 7, I i, I (((at_ s.Points i.toNat).X) - ((at_ s.Points ((i - 1).toNat)).X)), I (((at_ s.Points i.toNat).Y) - ((at_ s.Points ((i - 1).toNat)).Y))] [some (.arr 1 out.length (fI out))] [(0 : Int) ≤ i ∧ i < (s.Points.length : Int), inR .i64 (i - 1), (0 : Int) ≤ (i - 1) ∧ (i - 1) < (s.Points.length : Int), inR .i64 (((at_ s.Points i.toNat).Y) - ((at_ s.Points ((i - 1).toNat)).Y))] (by kernel_rfl) hB ⟨⟨(by omega), (by omega)⟩, (inR_i64 (by omega) (by omega)), ⟨(by omega), (by omega)⟩, (inR_i64 (by omega) (by omega)), trivial⟩ ?_
   refine ae_then ?_
   refine aw_seq ?_
   by_cases h2 : (((at_ s.Points i.toNat).X) - ((at_ s.Points ((i - 1).toNat)).X)) = 0
   ·by_cases h3 : (((at_ s.Points i.toNat).Y) - ((at_ s.Points ((i - 1).toNat)).Y)) = 0
    ·refine aw_reg [(1, .dec false), (4, .dec false)] [0, 3, 4, 5, 6, 58] [7] [.ptr false [slPoint false s.Points], .arr 7, I i, I (((at_ s.Points i.toNat).X) - ((at_ s.Points ((i - 1).toNat)).X)), I (((at_ s.Points i.toNat).Y) - ((at_ s.Points ((i - 1).toNat)).Y)), Bv false] [some (.arr 1 out.length (fI out))] [¬ ((((at_ s.Points i.toNat).X) - ((at_ s.Points ((i - 1).toNat)).X)) ≠ 0), ¬ ((((at_ s.Points i.toNat).Y) - ((at_ s.Points ((i - 1).toNat)).Y)) ≠ 0)] (by kernel_rfl) hB ⟨(fun hq => hq h2), (fun hq => hq h3), trivial⟩ ?_
     refine ae_then ?_
     refine aw_false rfl ?_
     refine aw_skip ?_
     refine ae_block 1 ?_
     refine ae_then ?_
     refine aw_reg [] [0, 3, 4] [7] [.ptr false [slPoint false s.Points], .arr 7, I (i + 1)] [some (.arr 1 out.length (fI out))] [inR .i64 (i + 1)] (by kernel_rfl) hB ⟨(inR_i64 (by omega) (by omega)), trivial⟩ ?_
     exact ae_again _ (by omega) ⟨out, (i + 1), rfl, (by omega), (by rw [hd0]; first | (exact (dirsL_same hi0.1 (by omega) (by omega)).symm) | (exact (dirsL_more hi0.1 (by omega)).symm)), rfl⟩
    ·refine aw_reg [(1, .dec false), (4, .dec true)] [0, 3, 4, 5, 6, 58] [7] [.ptr false [slPoint false s.Points], .arr 7, I i, I (((at_ s.Points i.toNat).X) - ((at_ s.Points ((i - 1).toNat)).X)), I (((at_ s.Points i.toNat).Y) - ((at_ s.Points ((i - 1).toNat)).Y)), Bv true] [some (.arr 1 out.length (fI out))] [¬ ((((at_ s.Points i.toNat).X) - ((at_ s.Points ((i - 1).toNat)).X)) ≠ 0), (((at_ s.Points i.toNat).Y) - ((at_ s.Points ((i - 1).toNat)).Y)) ≠ 0] (by kernel_rfl) hB ⟨(fun hq => hq h2), h3, trivial⟩ ?_
     refine ae_then ?_
     refine aw_true rfl ?_
     refine aw_reg [(3, .call [(true, I (((at_ s.Points i.toNat).X) - ((at_ s.Points ((i - 1).toNat)).X))), (true, I (((at_ s.Points i.toNat).Y) - ((at_ s.Points ((i - 1).toNat)).Y)))] true (I (dirI (((at_ s.Points i.toNat).X) - ((at_ s.Points ((i - 1).toNat)).X)) (((at_ s.Points i.toNat).Y) - ((at_ s.Points ((i - 1).toNat)).Y))))), (4, .new 63), (5, .new 64)] [0, 3, 4] [64] [.ptr false [slPoint false s.Points], .arr 64, I i] [some (.arr 1 (out.length + 1) (catF out.length (fI out) (litF [I (dirI (((at_ s.Points i.toNat).X) - ((at_ s.Points ((i - 1).toNat)).X)) (((at_ s.Points i.toNat).Y) - ((at_ s.Points ((i - 1).toNat)).Y)))] 1)))] [Con Tryz.prog 95 [I (((at_ s.Points i.toNat).X) - ((at_ s.Points ((i - 1).toNat)).X)), I (((at_ s.Points i.toNat).Y) - ((at_ s.Points ((i - 1).toNat)).Y))] true (I (dirI (((at_ s.Points i.toNat).X) - ((at_ s.Points ((i - 1).toNat)).X)) (((at_ s.Points i.toNat).Y) - ((at_ s.Points ((i - 1).toNat)).Y)))) ∧ ((I (((at_ s.Points i.toNat).X) - ((at_ s.Points ((i - 1).toNat)).X)) : AV) = I (((at_ s.Points i.toNat).X) - ((at_ s.Points ((i - 1).toNat)).X))) ∧ ((I (((at_ s.Points i.toNat).Y) - ((at_ s.Points ((i - 1).toNat)).Y)) : AV) = I (((at_ s.Points i.toNat).Y) - ((at_ s.Points ((i - 1).toNat)).Y))) ∧ True, (out.length + 1) * 8 ≤ 140737488355328] (by kernel_rfl) hB ⟨⟨(l05Sector_ok (((at_ s.Points i.toNat).X) - ((at_ s.Points ((i - 1).toNat)).X)) (((at_ s.Points i.toNat).Y) - ((at_ s.Points ((i - 1).toNat)).Y)) (by omega)), rfl, rfl, trivial⟩, (by omega), trivial⟩ ?_
     refine ae_block 1 ?_
     refine ae_then ?_
     refine aw_reg [] [0, 3, 4] [64] [.ptr false [slPoint false s.Points], .arr 64, I (i + 1)] [some (.arr 1 (out.length + 1) (catF out.length (fI out) (litF [I (dirI (((at_ s.Points i.toNat).X) - ((at_ s.Points ((i - 1).toNat)).X)) (((at_ s.Points i.toNat).Y) - ((at_ s.Points ((i - 1).toNat)).Y)))] 1)))] [inR .i64 (i + 1)] (by kernel_rfl) hB ⟨(inR_i64 (by omega) (by omega)), trivial⟩ ?_
     refine ae_weak hB [(7, 64)] (T := [(0, .ptr false [slPoint false s.Points]), (3, .arr 7), (4, I (i + 1))]) (O := [(7, .arr 1 ((out ++ [(dirI (((at_ s.Points i.toNat).X) - ((at_ s.Points ((i - 1).toNat)).X)) (((at_ s.Points i.toNat).Y) - ((at_ s.Points ((i - 1).toNat)).Y)))]).length) (fI (out ++ [(dirI (((at_ s.Points i.toNat).X) - ((at_ s.Points ((i - 1).toNat)).X)) (((at_ s.Points i.toNat).Y) - ((at_ s.Points ((i - 1).toNat)).Y)))])))]) rfl (⟨.inl rfl, .inl rfl, .inl rfl, trivial⟩) (⟨.inr ⟨rfl, (by first | rfl | (simp; done) | (simp; omega) | omega), fun i hi => .inl (cat_snoc (enc := cI) (xs := out) rfl i hi)⟩, trivial⟩) (ae_again _ (by omega) ⟨(out ++ [(dirI (((at_ s.Points i.toNat).X) - ((at_ s.Points ((i - 1).toNat)).X)) (((at_ s.Points i.toNat).Y) - ((at_ s.Points ((i - 1).toNat)).Y)))]), (i + 1), rfl, (by omega), (by rw [hd0]; first | (exact (dirsL_same hi0.1 (by omega) (by omega)).symm) | (exact (dirsL_more hi0.1 (by omega)).symm)), rfl⟩)
   ·refine aw_reg [(1, .dec true)] [0, 3, 4, 5, 6, 58] [7] [.ptr false [slPoint false s.Points], .arr 7, I i, I (((at_ s.Points i.toNat).X) - ((at_ s.Points ((i - 1).toNat)).X)), I (((at_ s.Points i.toNat).Y) - ((at_ s.Points ((i - 1).toNat)).Y)), Bv true] [some (.arr 1 out.length (fI out))] [(((at_ s.Points i.toNat).X) - ((at_ s.Points ((i - 1).toNat)).X)) ≠ 0] (by kernel_rfl) hB ⟨h2, trivial⟩ ?_
    refine ae_then ?_
    refine aw_true rfl ?_
    refine aw_reg [(3, .call [(true, I (((at_ s.Points i.toNat).X) - ((at_ s.Points ((i - 1).toNat)).X))), (true, I (((at_ s.Points i.toNat).Y) - ((at_ s.Points ((i - 1).toNat)).Y)))] true (I (dirI (((at_ s.Points i.toNat).X) - ((at_ s.Points ((i - 1).toNat)).X)) (((at_ s.Points i.toNat).Y) - ((at_ s.Points ((i - 1).toNat)).Y))))), (4, .new 63), (5, .new 64)] [0, 3, 4] [64] [.ptr false [slPoint false s.Points], .arr 64, I i] [some (.arr 1 (out.length + 1) (catF out.length (fI out) (litF [I (dirI (((at_ s.Points i.toNat).X) - ((at_ s.Points ((i - 1).toNat)).X)) (((at_ s.Points i.toNat).Y) - ((at_ s.Points ((i - 1).toNat)).Y)))] 1)))] [Con Tryz.prog 95 [I (((at_ s.Points i.toNat).X) - ((at_ s.Points ((i - 1).toNat)).X)), I (((at_ s.Points i.toNat).Y) - ((at_ s.Points ((i - 1).toNat)).Y))] true (I (dirI (((at_ s.Points i.toNat).X) - ((at_ s.Points ((i - 1).toNat)).X)) (((at_ s.Points i.toNat).Y) - ((at_ s.Points ((i - 1).toNat)).Y)))) ∧ ((I (((at_ s.Points i.toNat).X) - ((at_ s.Points ((i - 1).toNat)).X)) : AV) = I (((at_ s.Points i.toNat).X) - ((at_ s.Points ((i - 1).toNat)).X))) ∧ ((I (((at_ s.Points i.toNat).Y) - ((at_ s.Points ((i - 1).toNat)).Y)) : AV) = I (((at_ s.Points i.toNat).Y) - ((at_ s.Points ((i - 1).toNat)).Y))) ∧ True, (out.length + 1) * 8 ≤ 140737488355328] (by kernel_rfl) hB ⟨⟨(l05Sector_ok (((at_ s.Points i.toNat).X) - ((at_ s.Points ((i - 1).toNat)).X)) (((at_ s.Points i.toNat).Y) - ((at_ s.Points ((i - 1).toNat)).Y)) (by omega)), rfl, rfl, trivial⟩, (by omega), trivial⟩ ?_
    refine ae_block 1 ?_
    refine ae_then ?_
    refine aw_reg [] [0, 3, 4] [64] [.ptr false [slPoint false s.Points], .arr 64, I (i + 1)] [some (.arr 1 (out.length + 1) (catF out.length (fI out) (litF [I (dirI (((at_ s.Points i.toNat).X) - ((at_ s.Points ((i - 1).toNat)).X)) (((at_ s.Points i.toNat).Y) - ((at_ s.Points ((i - 1).toNat)).Y)))] 1)))] [inR .i64 (i + 1)] (by kernel_rfl) hB ⟨(inR_i64 (by omega) (by omega)), trivial⟩ ?_
    refine ae_weak hB [(7, 64)] (T := [(0, .ptr false [slPoint false s.Points]), (3, .arr 7), (4, I (i + 1))]) (O := [(7, .arr 1 ((out ++ [(dirI (((at_ s.Points i.toNat).X) - ((at_ s.Points ((i - 1).toNat)).X)) (((at_ s.Points i.toNat).Y) - ((at_ s.Points ((i - 1).toNat)).Y)))]).length) (fI (out ++ [(dirI (((at_ s.Points i.toNat).X) - ((at_ s.Points ((i - 1).toNat)).X)) (((at_ s.Points i.toNat).Y) - ((at_ s.Points ((i - 1).toNat)).Y)))])))]) rfl (⟨.inl rfl, .inl rfl, .inl rfl, trivial⟩) (⟨.inr ⟨rfl, (by first | rfl | (simp; done) | (simp; omega) | omega), fun i hi => .inl (cat_snoc (enc := cI) (xs := out) rfl i hi)⟩, trivial⟩) (ae_again _ (by omega) ⟨(out ++ [(dirI (((at_ s.Points i.toNat).X) - ((at_ s.Points ((i - 1).toNat)).X)) (((at_ s.Points i.toNat).Y) - ((at_ s.Points ((i - 1).toNat)).Y)))]), (i + 1), rfl, (by omega), (by rw [hd0]; first | (exact (dirsL_same hi0.1 (by omega) (by omega)).symm) | (exact (dirsL_more hi0.1 (by omega)).symm)), rfl⟩)
  ·have hie : i.toNat = s.Points.length := by omega
   rw [hie] at hd0
   subst hd0
   refine aw_reg [(6, .dec false)] [0, 3, 4, 14] [7] [.ptr false [slPoint false s.Points], .arr 7, I i, Bv false] [some (.arr 1 ((dirsL s.Points s.Points.length).length) (fI (dirsL s.Points s.Points.length)))] [¬ (i < (s.Points.length : Int))] (by kernel_rfl) hB ⟨h1, trivial⟩ ?_
   refine ae_then ?_
   refine aw_false rfl ?_
   refine aw_exit ?_
   refine ae_exit_then ?_
   refine ae_exit_then ?_
   refine ae_exit_same ?_
   refine ae_then ?_
   refine aw_seq ?_
   refine aw_reg [] [2] [7] [.arr 7] [some (.arr 1 ((dirsL s.Points s.Points.length).length) (fI (dirsL s.Points s.Points.length)))] [] (by kernel_rfl) hB trivial ?_
   refine ae_then ?_
   refine aw_ret ?_
   refine ae_ret hB (.arr 7) (by kernel_rfl) (.inr ⟨(fun _ => rfl), rfl, rfl, fun i _ => .inl rfl⟩) rfl (fun _ => (tagI true _))


-- spec.l05Bend
theorem l05Bend_ok (a : Int) (b : Int) (ha : 0 ≤ a ∧ a ≤ 7) (hb : 0 ≤ b ∧ b ≤ 7) : Con Tryz.prog 72 [I a, I b] true (I (bendI a b)) := by
  refine fn_ok (fn := Tryz.f72) (nt := 16) Tryz.func72 rfl rfl rfl rfl (by simp [taggedL, tagged]) fun B hB => ?_
  refine aw_seq ?_
  refine aw_reg [] [0, 1] [] [I a, I b] [] [] (by kernel_rfl) hB trivial ?_
  refine ae_then ?_
  refine aw_seq ?_
  refine aw_reg [(4, .nn)] [5] [] [I (((b - a) + 8) % 8)] [] [inR .i64 (b - a), inR .i64 ((b - a) + 8), (0 : Int) ≤ ((b - a) + 8) ∧ (0 : Int) < 8] (by kernel_rfl) hB ⟨(inR_i64 (by omega) (by omega)), (inR_i64 (by omega) (by omega)), ⟨(by omega), (by omega)⟩, trivial⟩ ?_
  refine ae_then ?_
  refine aw_seq ?_
  refine aw_seq ?_
  by_cases h1 : 4 < (((b - a) + 8) % 8)
  ·refine aw_reg [(1, .dec true)] [5, 12] [] [I (((b - a) + 8) % 8), Bv true] [] [4 < (((b - a) + 8) % 8)] (by kernel_rfl) hB ⟨h1, trivial⟩ ?_
   refine ae_then ?_
   refine aw_true rfl ?_
   refine aw_reg [] [5] [] [I ((((b - a) + 8) % 8) - 8)] [] [inR .i64 ((((b - a) + 8) % 8) - 8)] (by kernel_rfl) hB ⟨(inR_i64 (by omega) (by omega)), trivial⟩ ?_
   refine ae_then ?_
   refine aw_seq ?_
   refine aw_reg [] [4] [] [I ((((b - a) + 8) % 8) - 8)] [] [] (by kernel_rfl) hB trivial ?_
   refine ae_then ?_
   refine aw_ret ?_
   refine ae_ret hB (I ((((b - a) + 8) % 8) - 8)) (by kernel_rfl) (.inl (by refine congrArg I ?_; unfold bendI; omega)) rfl (fun _ => trivial)
  ·refine aw_reg [(1, .dec false)] [5, 12] [] [I (((b - a) + 8) % 8), Bv false] [] [¬ (4 < (((b - a) + 8) % 8))] (by kernel_rfl) hB ⟨h1, trivial⟩ ?_
   refine ae_then ?_
   refine aw_false rfl ?_
   refine aw_skip ?_
   refine ae_then ?_
   refine aw_seq ?_
   refine aw_reg [] [4] [] [I (((b - a) + 8) % 8)] [] [] (by kernel_rfl) hB trivial ?_
   refine ae_then ?_
   refine aw_ret ?_
   refine ae_ret hB (I (((b - a) + 8) % 8)) (by kernel_rfl) (.inl (by refine congrArg I ?_; unfold bendI; omega)) rfl (fun _ => trivial)


-- spec.l02Join
theorem l02Join_ok (a : Box) (b : Box) : Con Tryz.prog 108 [agBox a, agBox b] true (agBox (joinB a b)) := by
  refine fn_ok (fn := Tryz.f108) (nt := 26) Tryz.func108 rfl rfl rfl rfl (by simp [taggedL, tagged]) fun B hB => ?_
  refine aw_seq ?_
  refine aw_reg [(0, .new 2), (1, .new 3), (2, .new 4)] [2, 3, 4] [2, 3, 4] [.ref 2 0, .ref 3 0, .ref 4 0] [some (bxBox a), some (bxBox b), some (.box [I 0, I 0, I 0, I 0])] [] (by kernel_rfl) hB trivial ?_
  refine ae_then ?_
  refine aw_seq ?_
  refine aw_reg [(4, .call [(true, I a.X1), (true, I b.X1)] true (I (min a.X1 b.X1))), (9, .call [(true, I a.Y1), (true, I b.Y1)] true (I (min a.Y1 b.Y1))), (14, .call [(true, I a.X2), (true, I b.X2)] true (I (max a.X2 b.X2))), (19, .call [(true, I a.Y2), (true, I b.Y2)] true (I (max a.Y2 b.Y2)))] [4] [4] [.ref 4 0] [some (.box [I (min a.X1 b.X1), I (min a.Y1 b.Y1), I (max a.X2 b.X2), I (max a.Y2 b.Y2)])] [Con Tryz.prog 88 [I a.X1, I b.X1] true (I (min a.X1 b.X1)) ∧ ((I a.X1 : AV) = I a.X1) ∧ ((I b.X1 : AV) = I b.X1) ∧ True, Con Tryz.prog 88 [I a.Y1, I b.Y1] true (I (min a.Y1 b.Y1)) ∧ ((I a.Y1 : AV) = I a.Y1) ∧ ((I b.Y1 : AV) = I b.Y1) ∧ True, Con Tryz.prog 87 [I a.X2, I b.X2] true (I (max a.X2 b.X2)) ∧ ((I a.X2 : AV) = I a.X2) ∧ ((I b.X2 : AV) = I b.X2) ∧ True, Con Tryz.prog 87 [I a.Y2, I b.Y2] true (I (max a.Y2 b.Y2)) ∧ ((I a.Y2 : AV) = I a.Y2) ∧ ((I b.Y2 : AV) = I b.Y2) ∧ True] (by kernel_rfl) hB ⟨⟨(l00Min_ok a.X1 b.X1), rfl, rfl, trivial⟩, ⟨(l00Min_ok a.Y1 b.Y1), rfl, rfl, trivial⟩, ⟨(l00Max_ok a.X2 b.X2), rfl, rfl, trivial⟩, ⟨(l00Max_ok a.Y2 b.Y2), rfl, rfl, trivial⟩, trivial⟩ ?_
  refine ae_then ?_
  refine aw_ret ?_
  refine ae_ret hB (.agg [I (min a.X1 b.X1), I (min a.Y1 b.Y1), I (max a.X2 b.X2), I (max a.Y2 b.Y2)]) (by kernel_rfl) (.inl (by first | rfl | (refine congrArg Bv ?_; simp [*]; done) | (refine congrArg Bv ?_; simp [*]; omega) | (refine congrArg Bv ?_; simp_all []; done) | (refine congrArg Bv ?_; simp_all []; omega))) rfl (fun _ => (by simp [tagged, taggedL]))


-- spec.l02BoxOf
theorem l02BoxOf_ok (s : Stroke) (ok : okStroke' s = true) : Con Tryz.prog 83 [.ptr false [slPoint false s.Points]] true (agBox (boxS s.Points s.Points.length)) := by
  have hln := okS_len ok
  refine fn_ok (fn := Tryz.f83) (nt := 50) Tryz.func83 rfl rfl rfl rfl (by simp [taggedL, tagged, tagPoint]) fun B hB => ?_
  refine aw_lens (x := .ptr false [slPoint false s.Points]) 0 rfl (fun len_s => ?_)
  simp [LenOK, LenL, cPoint, fPoint, slPoint] at len_s
  refine aw_seq ?_
  refine aw_reg [(0, .new 2)] [0, 2] [2] [.ptr false [slPoint false s.Points], .ref 2 0] [some (.box [I 0, I 0, I 0, I 0])] [] (by kernel_rfl) hB trivial ?_
  refine ae_then ?_
  refine aw_seq ?_
  refine aw_reg [(6, .new 3)] [0, 2, 3] [2, 3] [.ptr false [slPoint false s.Points], .ref 2 0, .ref 3 0] [some (.box [I 0, I 0, I 0, I 0]), some (bxPoint (at_ s.Points 0))] [(0 : Int) ≤ 0 ∧ 0 < (s.Points.length : Int)] (by kernel_rfl) hB ⟨⟨(by omega), (by omega)⟩, trivial⟩ ?_
  refine ae_then ?_
  refine aw_seq ?_
  refine aw_reg [(9, .new 4)] [0, 2, 4] [2, 4] [.ptr false [slPoint false s.Points], .ref 2 0, .ref 4 0] [some (.box [I 0, I 0, I 0, I 0]), some (.box [I ((at_ s.Points 0).X), I ((at_ s.Points 0).Y), I ((at_ s.Points 0).X), I ((at_ s.Points 0).Y)])] [] (by kernel_rfl) hB trivial ?_
  refine ae_then ?_
  refine aw_seq ?_
  refine aw_seq ?_
  refine aw_reg [] [0, 2, 4, 5] [2, 4] [.ptr false [slPoint false s.Points], .ref 2 0, .ref 4 0, I 1] [some (.box [I 0, I 0, I 0, I 0]), some (.box [I ((at_ s.Points 0).X), I ((at_ s.Points 0).Y), I ((at_ s.Points 0).X), I ((at_ s.Points 0).Y)])] [] (by kernel_rfl) hB trivial ?_
  refine ae_then ?_
  refine aw_block ?_
  refine aw_loop (fun gn gσ => ∃ (i : Int) (x1 : Int) (y1 : Int) (x2 : Int) (y2 : Int), gn = ((s.Points.length : Int) - i).toNat ∧ (1 ≤ i ∧ i ≤ (s.Points.length : Int)) ∧ (Box.mk x1 y1 x2 y2 = boxS s.Points i.toNat) ∧ gσ = mkS [(0, .ptr false [slPoint false s.Points]), (2, .ref 2 0), (4, .ref 4 0), (5, I i)] [(2, .box [I 0, I 0, I 0, I 0]), (4, .box [I x1, I y1, I x2, I y2])]) (((s.Points.length : Int) - 1).toNat) ⟨1, (at_ s.Points 0).X, (at_ s.Points 0).Y, (at_ s.Points 0).X, (at_ s.Points 0).Y, rfl, (by omega), (by first | rfl | exact (boxS_one _).symm), rfl⟩ (fun gn gσ hI => ?_)
  obtain ⟨i, x1, y1, x2, y2, rfl, hi0, hb1, rfl⟩ := hI
  refine aw_seq ?_
  refine aw_seq ?_
  by_cases h1 : i < (s.Points.length : Int)
  ·have hi : i.toNat < s.Points.length := by omega
   refine aw_reg [(6, .dec true)] [0, 2, 4, 5, 28] [2, 4] [.ptr false [slPoint false s.Points], .ref 2 0, .ref 4 0, I i, Bv true] [some (.box [I 0, I 0, I 0, I 0]), some (.box [I x1, I y1, I x2, I y2])] [i < (s.Points.length : Int)] (by kernel_rfl) hB ⟨h1, trivial⟩ ?_
   refine ae_then ?_
   refine aw_true rfl ?_
   refine aw_skip ?_
   refine ae_then ?_
   refine aw_seq ?_
   refine aw_block ?_
   refine aw_seq ?_
   refine aw_reg [(7, .new 6)] [0, 2, 4, 5, 6] [2, 4, 6] [.ptr false [slPoint false s.Points], .ref 2 0, .ref 4 0, I i, .ref 6 0] [some (.box [I 0, I 0, I 0, I 0]), some (.box [I x1, I y1, I x2, I y2]), some (bxPoint (at_ s.Points i.toNat))] [(0 : Int) ≤ i ∧ i < (s.Points.length : Int)] (by kernel_rfl) hB ⟨⟨(by omega), (by omega)⟩, trivial⟩ ?_
   refine ae_then ?_
   refine aw_reg [(10, .call [(true, .agg [I x1, I y1, I x2, I y2]), (true, .agg [I ((at_ s.Points i.toNat).X), I ((at_ s.Points i.toNat).Y), I ((at_ s.Points i.toNat).X), I ((at_ s.Points i.toNat).Y)])] true (agBox (joinB (Box.mk x1 y1 x2 y2) (Box.mk ((at_ s.Points i.toNat).X) ((at_ s.Points i.toNat).Y) ((at_ s.Points i.toNat).X) ((at_ s.Points i.toNat).Y)))))] [0, 2, 4, 5] [2, 4] [.ptr false [slPoint false s.Points], .ref 2 0, .ref 4 0, I i] [some (.box [I 0, I 0, I 0, I 0]), some (bxBox (joinB (Box.mk x1 y1 x2 y2) (Box.mk ((at_ s.Points i.toNat).X) ((at_ s.Points i.toNat).Y) ((at_ s.Points i.toNat).X) ((at_ s.Points i.toNat).Y))))] [Con Tryz.prog 108 [.agg [I x1, I y1, I x2, I y2], .agg [I ((at_ s.Points i.toNat).X), I ((at_ s.Points i.toNat).Y), I ((at_ s.Points i.toNat).X), I ((at_ s.Points i.toNat).Y)]] true (agBox (joinB (Box.mk x1 y1 x2 y2) (Box.mk ((at_ s.Points i.toNat).X) ((at_ s.Points i.toNat).Y) ((at_ s.Points i.toNat).X) ((at_ s.Points i.toNat).Y)))) ∧ ((.agg [I x1, I y1, I x2, I y2] : AV) = .agg [I x1, I y1, I x2, I y2]) ∧ ((.agg [I ((at_ s.Points i.toNat).X), I ((at_ s.Points i.toNat).Y), I ((at_ s.Points i.toNat).X), I ((at_ s.Points i.toNat).Y)] : AV) = .agg [I ((at_ s.Points i.toNat).X), I ((at_ s.Points i.toNat).Y), I ((at_ s.Points i.toNat).X), I ((at_ s.Points i.toNat).Y)]) ∧ True] (by kernel_rfl) hB ⟨⟨(l02Join_ok (Box.mk x1 y1 x2 y2) (Box.mk ((at_ s.Points i.toNat).X) ((at_ s.Points i.toNat).Y) ((at_ s.Points i.toNat).X) ((at_ s.Points i.toNat).Y))), rfl, rfl, trivial⟩, trivial⟩ ?_
   refine ae_block 1 ?_
   refine ae_then ?_
   refine aw_reg [] [0, 2, 4, 5] [2, 4] [.ptr false [slPoint false s.Points], .ref 2 0, .ref 4 0, I (i + 1)] [some (.box [I 0, I 0, I 0, I 0]), some (bxBox (joinB (Box.mk x1 y1 x2 y2) (Box.mk ((at_ s.Points i.toNat).X) ((at_ s.Points i.toNat).Y) ((at_ s.Points i.toNat).X) ((at_ s.Points i.toNat).Y))))] [inR .i64 (i + 1)] (by kernel_rfl) hB ⟨(inR_i64 (by omega) (by omega)), trivial⟩ ?_
   refine ae_weak hB [] (T := [(0, .ptr false [slPoint false s.Points]), (2, .ref 2 0), (4, .ref 4 0), (5, I (i + 1))]) (O := [(2, .box [I 0, I 0, I 0, I 0]), (4, .box [I ((joinB (Box.mk x1 y1 x2 y2) (Box.mk ((at_ s.Points i.toNat).X) ((at_ s.Points i.toNat).Y) ((at_ s.Points i.toNat).X) ((at_ s.Points i.toNat).Y))).X1), I ((joinB (Box.mk x1 y1 x2 y2) (Box.mk ((at_ s.Points i.toNat).X) ((at_ s.Points i.toNat).Y) ((at_ s.Points i.toNat).X) ((at_ s.Points i.toNat).Y))).Y1), I ((joinB (Box.mk x1 y1 x2 y2) (Box.mk ((at_ s.Points i.toNat).X) ((at_ s.Points i.toNat).Y) ((at_ s.Points i.toNat).X) ((at_ s.Points i.toNat).Y))).X2), I ((joinB (Box.mk x1 y1 x2 y2) (Box.mk ((at_ s.Points i.toNat).X) ((at_ s.Points i.toNat).Y) ((at_ s.Points i.toNat).X) ((at_ s.Points i.toNat).Y))).Y2)])]) rfl (⟨.inl rfl, .inl rfl, .inl rfl, .inl rfl, trivial⟩) (⟨.inl rfl, .inr ⟨rfl, ⟨rfl, ⟨rfl, ⟨rfl, rfl⟩⟩⟩⟩, trivial⟩) (ae_again _ (by omega) ⟨(i + 1), (joinB (Box.mk x1 y1 x2 y2) (Box.mk ((at_ s.Points i.toNat).X) ((at_ s.Points i.toNat).Y) ((at_ s.Points i.toNat).X) ((at_ s.Points i.toNat).Y))).X1, (joinB (Box.mk x1 y1 x2 y2) (Box.mk ((at_ s.Points i.toNat).X) ((at_ s.Points i.toNat).Y) ((at_ s.Points i.toNat).X) ((at_ s.Points i.toNat).Y))).Y1, (joinB (Box.mk x1 y1 x2 y2) (Box.mk ((at_ s.Points i.toNat).X) ((at_ s.Points i.toNat).Y) ((at_ s.Points i.toNat).X) ((at_ s.Points i.toNat).Y))).X2, (joinB (Box.mk x1 y1 x2 y2) (Box.mk ((at_ s.Points i.toNat).X) ((at_ s.Points i.toNat).Y) ((at_ s.Points i.toNat).X) ((at_ s.Points i.toNat).Y))).Y2, rfl, (by omega), (by rw [boxS_succ (by omega), ← hb1]; rfl), rfl⟩)
  ·have hie : i.toNat = s.Points.length := by omega
   rw [hie] at hb1
   refine aw_reg [(6, .dec false)] [0, 2, 4, 5, 28] [2, 4] [.ptr false [slPoint false s.Points], .ref 2 0, .ref 4 0, I i, Bv false] [some (.box [I 0, I 0, I 0, I 0]), some (.box [I x1, I y1, I x2, I y2])] [¬ (i < (s.Points.length : Int))] (by kernel_rfl) hB ⟨h1, trivial⟩ ?_
   refine ae_then ?_
   refine aw_false rfl ?_
   refine aw_exit ?_
   refine ae_exit_then ?_
   refine ae_exit_then ?_
   refine ae_exit_same ?_
   refine ae_then ?_
   refine aw_seq ?_
   refine aw_reg [] [2] [2] [.ref 2 0] [some (.box [I x1, I y1, I x2, I y2])] [] (by kernel_rfl) hB trivial ?_
   refine ae_then ?_
   refine aw_ret ?_
   refine ae_ret hB (.agg [I x1, I y1, I x2, I y2]) (by kernel_rfl) (.inl (by rw [← hb1])) rfl (fun _ => (by simp [tagged, taggedL]))


-- spec.l23Caret
theorem l23Caret_ok (s : Stroke) (ok : okStroke' s = true) : Con Tryz.prog 75 [.ptr false [slPoint false s.Points]] true (Bv (caretB s)) := by
  have hln := okS_len ok
  have hpf := okS_at ok (j := 0) (by omega)
  have hpl := okS_at ok (j := s.Points.length - 1) (by omega)
  have hpf' := okP_iff.1 hpf
  have hpl' := okP_iff.1 hpl
  have hbx := boxS_all ok
  unfold okBox at hbx
  have hsb := sumS_bd ok s.Points.length (Nat.le_refl _)
  have heb := ends_bd ok
  have hle : ((s.Points.length : Int) - 1).toNat = s.Points.length - 1 := by omega
  have hplz : okP (at_ s.Points ((s.Points.length : Int) - 1).toNat) = true := by rw [hle]; exact hpl
  have hplz' := okP_iff.1 hplz
  refine fn_ok (fn := Tryz.f75) (nt := 59) Tryz.func75 rfl rfl rfl rfl (by simp [taggedL, tagged, tagPoint]) fun B hB => ?_
  refine aw_lens (x := .ptr false [slPoint false s.Points]) 0 rfl (fun len_s => ?_)
  simp [LenOK, LenL, cPoint, fPoint, slPoint] at len_s
  refine aw_seq ?_
  refine aw_reg [] [0] [] [.ptr false [slPoint false s.Points]] [] [] (by kernel_rfl) hB trivial ?_
  refine ae_then ?_
  refine aw_seq ?_
  refine aw_reg [(1, .call [(true, .ptr false [slPoint false s.Points])] true (agBox (boxS s.Points s.Points.length))), (2, .new 3)] [0, 3] [3] [.ptr false [slPoint false s.Points], .ref 3 0] [some (bxBox (boxS s.Points s.Points.length))] [Con Tryz.prog 83 [.ptr false [slPoint false s.Points]] true (agBox (boxS s.Points s.Points.length)) ∧ ((.ptr false [slPoint false s.Points] : AV) = .ptr false [slPoint false s.Points]) ∧ True] (by kernel_rfl) hB ⟨⟨(l02BoxOf_ok s ok), rfl, trivial⟩, trivial⟩ ?_
  refine ae_then ?_
  refine aw_seq ?_
  refine aw_reg [] [0, 3, 4] [3] [.ptr false [slPoint false s.Points], .ref 3 0, I (((boxS s.Points s.Points.length).Y2) - ((boxS s.Points s.Points.length).Y1))] [some (bxBox (boxS s.Points s.Points.length))] [inR .i64 (((boxS s.Points s.Points.length).Y2) - ((boxS s.Points s.Points.length).Y1))] (by kernel_rfl) hB ⟨(inR_i64 (by omega) (by omega)), trivial⟩ ?_
  refine ae_then ?_
  refine aw_seq ?_
  refine aw_reg [] [0, 3, 4, 5] [3] [.ptr false [slPoint false s.Points], .ref 3 0, I (((boxS s.Points s.Points.length).Y2) - ((boxS s.Points s.Points.length).Y1)), I (((at_ s.Points 0).Y) - ((boxS s.Points s.Points.length).Y1))] [some (bxBox (boxS s.Points s.Points.length))] [(0 : Int) ≤ 0 ∧ 0 < (s.Points.length : Int), inR .i64 (((at_ s.Points 0).Y) - ((boxS s.Points s.Points.length).Y1))] (by kernel_rfl) hB ⟨⟨(by omega), (by omega)⟩, (inR_i64 (by omega) (by omega)), trivial⟩ ?_
  refine ae_then ?_
  refine aw_seq ?_
  refine aw_reg [] [0, 4, 5, 6] [] [.ptr false [slPoint false s.Points], I (((boxS s.Points s.Points.length).Y2) - ((boxS s.Points s.Points.length).Y1)), I (((at_ s.Points 0).Y) - ((boxS s.Points s.Points.length).Y1)), I (((at_ s.Points (((s.Points.length : Int) - 1).toNat)).Y) - ((boxS s.Points s.Points.length).Y1))] [] [inR .i64 ((s.Points.length : Int) - 1), (0 : Int) ≤ ((s.Points.length : Int) - 1) ∧ ((s.Points.length : Int) - 1) < (s.Points.length : Int), inR .i64 (((at_ s.Points (((s.Points.length : Int) - 1).toNat)).Y) - ((boxS s.Points s.Points.length).Y1))] (by kernel_rfl) hB ⟨(inR_i64 (by omega) (by omega)), ⟨(by omega), (by omega)⟩, (inR_i64 (by omega) (by omega)), trivial⟩ ?_
  refine ae_then ?_
  refine aw_seq ?_
  by_cases h1 : 0 < (((boxS s.Points s.Points.length).Y2) - ((boxS s.Points s.Points.length).Y1))
  ·by_cases h2 : (((boxS s.Points s.Points.length).Y2) - ((boxS s.Points s.Points.length).Y1)) ≤ (2 * (((at_ s.Points 0).Y) - ((boxS s.Points s.Points.length).Y1)))
   ·by_cases h3 : (((boxS s.Points s.Points.length).Y2) - ((boxS s.Points s.Points.length).Y1)) ≤ (2 * (((at_ s.Points (((s.Points.length : Int) - 1).toNat)).Y) - ((boxS s.Points s.Points.length).Y1)))
    ·refine aw_reg [(1, .dec true), (6, .dec true), (12, .dec true), (16, .call [(true, .ptr false [slPoint false s.Points])] true (I ((revS s.Points s.Points.length).1)))] [2] [] [Bv (decide (((revS s.Points s.Points.length).1) = 0))] [] [0 < (((boxS s.Points s.Points.length).Y2) - ((boxS s.Points s.Points.length).Y1)), inR .i64 (2 * (((at_ s.Points 0).Y) - ((boxS s.Points s.Points.length).Y1))), (((boxS s.Points s.Points.length).Y2) - ((boxS s.Points s.Points.length).Y1)) ≤ (2 * (((at_ s.Points 0).Y) - ((boxS s.Points s.Points.length).Y1))), inR .i64 (2 * (((at_ s.Points (((s.Points.length : Int) - 1).toNat)).Y) - ((boxS s.Points s.Points.length).Y1))), (((boxS s.Points s.Points.length).Y2) - ((boxS s.Points s.Points.length).Y1)) ≤ (2 * (((at_ s.Points (((s.Points.length : Int) - 1).toNat)).Y) - ((boxS s.Points s.Points.length).Y1))), Con Tryz.prog 38 [.ptr false [slPoint false s.Points]] true (I ((revS s.Points s.Points.length).1)) ∧ ((.ptr false [slPoint false s.Points] : AV) = .ptr false [slPoint false s.Points]) ∧ True] (by kernel_rfl) hB ⟨h1, (inR_i64 (by omega) (by omega)), h2, (inR_i64 (by omega) (by omega)), h3, ⟨(l23Reversals_ok s ok), rfl, trivial⟩, trivial⟩ ?_
     refine ae_then ?_
     refine aw_ret ?_
     refine ae_ret hB (Bv (decide (((revS s.Points s.Points.length).1) = 0))) (by kernel_rfl) (.inl (by refine congrArg Bv ?_; unfold caretB; simp only [hle] at *; rw [Bool.eq_iff_iff]; simp_all; try omega)) rfl (fun _ => trivial)
    ·refine aw_reg [(1, .dec true), (6, .dec true), (12, .dec false)] [2] [] [Bv false] [] [0 < (((boxS s.Points s.Points.length).Y2) - ((boxS s.Points s.Points.length).Y1)), inR .i64 (2 * (((at_ s.Points 0).Y) - ((boxS s.Points s.Points.length).Y1))), (((boxS s.Points s.Points.length).Y2) - ((boxS s.Points s.Points.length).Y1)) ≤ (2 * (((at_ s.Points 0).Y) - ((boxS s.Points s.Points.length).Y1))), inR .i64 (2 * (((at_ s.Points (((s.Points.length : Int) - 1).toNat)).Y) - ((boxS s.Points s.Points.length).Y1))), ¬ ((((boxS s.Points s.Points.length).Y2) - ((boxS s.Points s.Points.length).Y1)) ≤ (2 * (((at_ s.Points (((s.Points.length : Int) - 1).toNat)).Y) - ((boxS s.Points s.Points.length).Y1))))] (by kernel_rfl) hB ⟨h1, (inR_i64 (by omega) (by omega)), h2, (inR_i64 (by omega) (by omega)), h3, trivial⟩ ?_
     refine ae_then ?_
     refine aw_ret ?_
     refine ae_ret hB (Bv false) (by kernel_rfl) (.inl (by refine congrArg Bv ?_; unfold caretB; simp only [hle] at *; rw [Bool.eq_iff_iff]; simp_all; try omega)) rfl (fun _ => trivial)
   ·refine aw_reg [(1, .dec true), (6, .dec false)] [2] [] [Bv false] [] [0 < (((boxS s.Points s.Points.length).Y2) - ((boxS s.Points s.Points.length).Y1)), inR .i64 (2 * (((at_ s.Points 0).Y) - ((boxS s.Points s.Points.length).Y1))), ¬ ((((boxS s.Points s.Points.length).Y2) - ((boxS s.Points s.Points.length).Y1)) ≤ (2 * (((at_ s.Points 0).Y) - ((boxS s.Points s.Points.length).Y1))))] (by kernel_rfl) hB ⟨h1, (inR_i64 (by omega) (by omega)), h2, trivial⟩ ?_
    refine ae_then ?_
    refine aw_ret ?_
    refine ae_ret hB (Bv false) (by kernel_rfl) (.inl (by refine congrArg Bv ?_; unfold caretB; simp only [hle] at *; rw [Bool.eq_iff_iff]; simp_all; try omega)) rfl (fun _ => trivial)
  ·refine aw_reg [(1, .dec false)] [2] [] [Bv false] [] [¬ (0 < (((boxS s.Points s.Points.length).Y2) - ((boxS s.Points s.Points.length).Y1)))] (by kernel_rfl) hB ⟨h1, trivial⟩ ?_
   refine ae_then ?_
   refine aw_ret ?_
   refine ae_ret hB (Bv false) (by kernel_rfl) (.inl (by refine congrArg Bv ?_; unfold caretB; simp only [hle] at *; rw [Bool.eq_iff_iff]; simp_all; try omega)) rfl (fun _ => trivial)


-- spec.l05Straight
theorem l05Straight_ok (s : Stroke) (ok : okStroke' s = true) : Con Tryz.prog 76 [.ptr false [slPoint false s.Points]] true (I (strI s)) := by
  have hln := okS_len ok
  have hpf := okS_at ok (j := 0) (by omega)
  have hpl := okS_at ok (j := s.Points.length - 1) (by omega)
  have hpf' := okP_iff.1 hpf
  have hpl' := okP_iff.1 hpl
  have hbx := boxS_all ok
  unfold okBox at hbx
  have hsb := sumS_bd ok s.Points.length (Nat.le_refl _)
  have heb := ends_bd ok
  have hle : ((s.Points.length : Int) - 1).toNat = s.Points.length - 1 := by omega
  have hplz : okP (at_ s.Points ((s.Points.length : Int) - 1).toNat) = true := by rw [hle]; exact hpl
  have hplz' := okP_iff.1 hplz
  have heb2 := segI_bd hpf hplz
  have heb3 := segI_bd hpf hpl
  refine fn_ok (fn := Tryz.f76) (nt := 31) Tryz.func76 rfl rfl rfl rfl (by simp [taggedL, tagged, tagPoint]) fun B hB => ?_
  refine aw_lens (x := .ptr false [slPoint false s.Points]) 0 rfl (fun len_s => ?_)
  simp [LenOK, LenL, cPoint, fPoint, slPoint] at len_s
  refine aw_seq ?_
  refine aw_reg [] [0] [] [.ptr false [slPoint false s.Points]] [] [] (by kernel_rfl) hB trivial ?_
  refine ae_then ?_
  refine aw_seq ?_
  refine aw_reg [(1, .call [(true, .ptr false [slPoint false s.Points])] true (I (sumS s.Points s.Points.length)))] [0, 3] [] [.ptr false [slPoint false s.Points], I (sumS s.Points s.Points.length)] [] [Con Tryz.prog 70 [.ptr false [slPoint false s.Points]] true (I (sumS s.Points s.Points.length)) ∧ ((.ptr false [slPoint false s.Points] : AV) = .ptr false [slPoint false s.Points]) ∧ True] (by kernel_rfl) hB ⟨⟨(l05Sum_ok s ok), rfl, trivial⟩, trivial⟩ ?_
  refine ae_then ?_
  refine aw_seq ?_
  refine aw_seq ?_
  by_cases h1 : (sumS s.Points s.Points.length) = 0
  ·refine aw_reg [(1, .dec true)] [0, 3, 7] [] [.ptr false [slPoint false s.Points], I (sumS s.Points s.Points.length), Bv true] [] [(sumS s.Points s.Points.length) = 0] (by kernel_rfl) hB ⟨h1, trivial⟩ ?_
   refine ae_then ?_
   refine aw_true rfl ?_
   refine aw_seq ?_
   refine aw_reg [] [2] [] [I 1000] [] [] (by kernel_rfl) hB trivial ?_
   refine ae_then ?_
   refine aw_ret ?_
   refine ae_ret_then ?_
   refine ae_ret hB (I 1000) (by kernel_rfl) (.inl (by refine congrArg I ?_; unfold strI endsI; simp_all [hle])) rfl (fun _ => trivial)
  ·refine aw_reg [(1, .dec false)] [0, 3, 7] [] [.ptr false [slPoint false s.Points], I (sumS s.Points s.Points.length), Bv false] [] [¬ ((sumS s.Points s.Points.length) = 0)] (by kernel_rfl) hB ⟨h1, trivial⟩ ?_
   refine ae_then ?_
   refine aw_false rfl ?_
   refine aw_skip ?_
   refine ae_then ?_
   refine aw_seq ?_
   refine aw_reg [(18, .call [(true, agPoint (at_ s.Points 0)), (true, agPoint (at_ s.Points (((s.Points.length : Int) - 1).toNat)))] true (I (segI (at_ s.Points 0) (at_ s.Points (((s.Points.length : Int) - 1).toNat))))), (21, .nn), (22, .call [(true, I 1000), (true, I ((1000 * (segI (at_ s.Points 0) (at_ s.Points (((s.Points.length : Int) - 1).toNat)))) / (sumS s.Points s.Points.length)))] true (I (min 1000 ((1000 * (segI (at_ s.Points 0) (at_ s.Points (((s.Points.length : Int) - 1).toNat)))) / (sumS s.Points s.Points.length)))))] [2] [] [I (min 1000 ((1000 * (segI (at_ s.Points 0) (at_ s.Points (((s.Points.length : Int) - 1).toNat)))) / (sumS s.Points s.Points.length)))] [] [(0 : Int) ≤ 0 ∧ 0 < (s.Points.length : Int), inR .i64 ((s.Points.length : Int) - 1), (0 : Int) ≤ ((s.Points.length : Int) - 1) ∧ ((s.Points.length : Int) - 1) < (s.Points.length : Int), Con Tryz.prog 74 [agPoint (at_ s.Points 0), agPoint (at_ s.Points (((s.Points.length : Int) - 1).toNat))] true (I (segI (at_ s.Points 0) (at_ s.Points (((s.Points.length : Int) - 1).toNat)))) ∧ ((agPoint (at_ s.Points 0) : AV) = agPoint (at_ s.Points 0)) ∧ ((agPoint (at_ s.Points (((s.Points.length : Int) - 1).toNat)) : AV) = agPoint (at_ s.Points (((s.Points.length : Int) - 1).toNat))) ∧ True, inR .i64 (1000 * (segI (at_ s.Points 0) (at_ s.Points (((s.Points.length : Int) - 1).toNat)))), (0 : Int) ≤ (1000 * (segI (at_ s.Points 0) (at_ s.Points (((s.Points.length : Int) - 1).toNat)))) ∧ (0 : Int) < (sumS s.Points s.Points.length) ∧ inR .i64 (1000 * (segI (at_ s.Points 0) (at_ s.Points (((s.Points.length : Int) - 1).toNat)))), Con Tryz.prog 88 [I 1000, I ((1000 * (segI (at_ s.Points 0) (at_ s.Points (((s.Points.length : Int) - 1).toNat)))) / (sumS s.Points s.Points.length))] true (I (min 1000 ((1000 * (segI (at_ s.Points 0) (at_ s.Points (((s.Points.length : Int) - 1).toNat)))) / (sumS s.Points s.Points.length)))) ∧ ((I 1000 : AV) = I 1000) ∧ ((I ((1000 * (segI (at_ s.Points 0) (at_ s.Points (((s.Points.length : Int) - 1).toNat)))) / (sumS s.Points s.Points.length)) : AV) = I ((1000 * (segI (at_ s.Points 0) (at_ s.Points (((s.Points.length : Int) - 1).toNat)))) / (sumS s.Points s.Points.length))) ∧ True] (by kernel_rfl) hB ⟨⟨(by omega), (by omega)⟩, (inR_i64 (by omega) (by omega)), ⟨(by omega), (by omega)⟩, ⟨(l05Length_ok (at_ s.Points 0) (at_ s.Points (((s.Points.length : Int) - 1).toNat)) (by assumption) (by assumption)), rfl, rfl, trivial⟩, (inR_i64 (by omega) (by omega)), ⟨(by omega), (by omega), (inR_i64 (by omega) (by omega))⟩, ⟨(l00Min_ok 1000 ((1000 * (segI (at_ s.Points 0) (at_ s.Points (((s.Points.length : Int) - 1).toNat)))) / (sumS s.Points s.Points.length))), rfl, rfl, trivial⟩, trivial⟩ ?_
   refine ae_then ?_
   refine aw_ret ?_
   refine ae_ret hB (I (min 1000 ((1000 * (segI (at_ s.Points 0) (at_ s.Points (((s.Points.length : Int) - 1).toNat)))) / (sumS s.Points s.Points.length)))) (by kernel_rfl) (.inl (by refine congrArg I ?_; unfold strI endsI; simp_all [hle])) rfl (fun _ => trivial)


-- spec.l23Gesture
theorem l23Gesture_ok (s : Stroke) (ok : okStroke' s = true) : Con Tryz.prog 36 [.ptr false [slPoint false s.Points]] true (I (gestI s)) := by
  have hln := okS_len ok
  have hpf := okS_at ok (j := 0) (by omega)
  have hpl := okS_at ok (j := s.Points.length - 1) (by omega)
  have hpf' := okP_iff.1 hpf
  have hpl' := okP_iff.1 hpl
  have hbx := boxS_all ok
  unfold okBox at hbx
  have hsb := sumS_bd ok s.Points.length (Nat.le_refl _)
  have heb := ends_bd ok
  have hle : ((s.Points.length : Int) - 1).toNat = s.Points.length - 1 := by omega
  have hplz : okP (at_ s.Points ((s.Points.length : Int) - 1).toNat) = true := by rw [hle]; exact hpl
  have hplz' := okP_iff.1 hplz
  have heb2 := segI_bd hpf hplz
  have heb3 := segI_bd hpf hpl
  have hdl := dirsL_len s.Points s.Points.length
  have hbtb := bendT_bd ok
  refine fn_ok (fn := Tryz.f36) (nt := 66) Tryz.func36 rfl rfl rfl rfl (by simp [taggedL, tagged, tagPoint]) fun B hB => ?_
  refine aw_lens (x := .ptr false [slPoint false s.Points]) 0 rfl (fun len_s => ?_)
  simp [LenOK, LenL, cPoint, fPoint, slPoint] at len_s
  refine aw_seq ?_
  refine aw_reg [] [0] [] [.ptr false [slPoint false s.Points]] [] [] (by kernel_rfl) hB trivial ?_
  refine ae_then ?_
  refine aw_seq ?_
  refine aw_reg [(1, .call [(true, .ptr false [slPoint false s.Points])] true (I (sumS s.Points s.Points.length)))] [0, 3] [] [.ptr false [slPoint false s.Points], I (sumS s.Points s.Points.length)] [] [Con Tryz.prog 70 [.ptr false [slPoint false s.Points]] true (I (sumS s.Points s.Points.length)) ∧ ((.ptr false [slPoint false s.Points] : AV) = .ptr false [slPoint false s.Points]) ∧ True] (by kernel_rfl) hB ⟨⟨(l05Sum_ok s ok), rfl, trivial⟩, trivial⟩ ?_
  refine ae_then ?_
  refine aw_seq ?_
  refine aw_seq ?_
  by_cases h1 : (sumS s.Points s.Points.length) ≤ 160
  ·refine aw_reg [(1, .dec true)] [0, 3, 10] [] [.ptr false [slPoint false s.Points], I (sumS s.Points s.Points.length), Bv true] [] [(sumS s.Points s.Points.length) ≤ 160] (by kernel_rfl) hB ⟨h1, trivial⟩ ?_
   refine ae_then ?_
   refine aw_true rfl ?_
   refine aw_seq ?_
   refine aw_reg [] [2] [] [I 1] [] [] (by kernel_rfl) hB trivial ?_
   refine ae_then ?_
   refine aw_ret ?_
   refine ae_ret_then ?_
   refine ae_ret hB (I 1) (by kernel_rfl) (.inl (by refine congrArg I ?_; unfold gestI endsI; simp_all [hle]; try omega)) rfl (fun _ => trivial)
  ·refine aw_reg [(1, .dec false)] [0, 3, 10] [] [.ptr false [slPoint false s.Points], I (sumS s.Points s.Points.length), Bv false] [] [¬ ((sumS s.Points s.Points.length) ≤ 160)] (by kernel_rfl) hB ⟨h1, trivial⟩ ?_
   refine ae_then ?_
   refine aw_false rfl ?_
   refine aw_skip ?_
   refine ae_then ?_
   refine aw_seq ?_
   refine aw_seq ?_
   by_cases h2 : 3 ≤ ((revS s.Points s.Points.length).1)
   ·refine aw_reg [(1, .call [(true, .ptr false [slPoint false s.Points])] true (I ((revS s.Points s.Points.length).1))), (2, .dec true)] [0, 3, 13] [] [.ptr false [slPoint false s.Points], I (sumS s.Points s.Points.length), Bv true] [] [Con Tryz.prog 38 [.ptr false [slPoint false s.Points]] true (I ((revS s.Points s.Points.length).1)) ∧ ((.ptr false [slPoint false s.Points] : AV) = .ptr false [slPoint false s.Points]) ∧ True, 3 ≤ ((revS s.Points s.Points.length).1)] (by kernel_rfl) hB ⟨⟨(l23Reversals_ok s ok), rfl, trivial⟩, h2, trivial⟩ ?_
    refine ae_then ?_
    refine aw_true rfl ?_
    refine aw_seq ?_
    refine aw_reg [] [2] [] [I 2] [] [] (by kernel_rfl) hB trivial ?_
    refine ae_then ?_
    refine aw_ret ?_
    refine ae_ret_then ?_
    refine ae_ret hB (I 2) (by kernel_rfl) (.inl (by refine congrArg I ?_; unfold gestI endsI; simp_all [hle]; try omega)) rfl (fun _ => trivial)
   ·refine aw_reg [(1, .call [(true, .ptr false [slPoint false s.Points])] true (I ((revS s.Points s.Points.length).1))), (2, .dec false)] [0, 3, 13] [] [.ptr false [slPoint false s.Points], I (sumS s.Points s.Points.length), Bv false] [] [Con Tryz.prog 38 [.ptr false [slPoint false s.Points]] true (I ((revS s.Points s.Points.length).1)) ∧ ((.ptr false [slPoint false s.Points] : AV) = .ptr false [slPoint false s.Points]) ∧ True, ¬ (3 ≤ ((revS s.Points s.Points.length).1))] (by kernel_rfl) hB ⟨⟨(l23Reversals_ok s ok), rfl, trivial⟩, h2, trivial⟩ ?_
    refine ae_then ?_
    refine aw_false rfl ?_
    refine aw_skip ?_
    refine ae_then ?_
    refine aw_seq ?_
    refine aw_reg [(1, .call [(true, .ptr false [slPoint false s.Points])] true (slI true (dirsL s.Points s.Points.length)))] [0, 3, 4] [] [.ptr false [slPoint false s.Points], I (sumS s.Points s.Points.length), slI true (dirsL s.Points s.Points.length)] [] [Con Tryz.prog 71 [.ptr false [slPoint false s.Points]] true (slI true (dirsL s.Points s.Points.length)) ∧ ((.ptr false [slPoint false s.Points] : AV) = .ptr false [slPoint false s.Points]) ∧ True] (by kernel_rfl) hB ⟨⟨(l05Directions_ok s ok), rfl, trivial⟩, trivial⟩ ?_
    refine ae_then ?_
    refine aw_seq ?_
    refine aw_reg [] [0, 3, 4, 5] [] [.ptr false [slPoint false s.Points], I (sumS s.Points s.Points.length), slI true (dirsL s.Points s.Points.length), I 0] [] [] (by kernel_rfl) hB trivial ?_
    refine ae_then ?_
    refine aw_seq ?_
    refine aw_seq ?_
    refine aw_reg [] [0, 3, 4, 5, 6] [] [.ptr false [slPoint false s.Points], I (sumS s.Points s.Points.length), slI true (dirsL s.Points s.Points.length), I 0, I 1] [] [] (by kernel_rfl) hB trivial ?_
    refine ae_then ?_
    refine aw_block ?_
    refine aw_loop (fun gn gσ => ∃ (bend : Int) (i : Int), gn = (((dirsL s.Points s.Points.length).length : Int) - i).toNat ∧ (1 ≤ i ∧ (i ≤ ((dirsL s.Points s.Points.length).length : Int) ∨ i = 1)) ∧ (bend = bendS (dirsL s.Points s.Points.length) i.toNat) ∧ (-3 * i ≤ bend ∧ bend ≤ 4 * i) ∧ gσ = mkS [(0, .ptr false [slPoint false s.Points]), (3, I (sumS s.Points s.Points.length)), (4, slI true (dirsL s.Points s.Points.length)), (5, I bend), (6, I i)] []) ((((dirsL s.Points s.Points.length).length : Int) - 1).toNat) ⟨0, 1, rfl, (by omega), (by exact (bendS_one _ _ (by decide)).symm), (by omega), rfl⟩ (fun gn gσ hI => ?_)
    obtain ⟨bend, i, rfl, hb0, hb1, hb2, rfl⟩ := hI
    refine aw_seq ?_
    refine aw_seq ?_
    by_cases h3 : i < (((dirsL s.Points s.Points.length).length) : Int)
    ·have hi : i.toNat < (dirsL s.Points s.Points.length).length := by omega
     have hi2 : (i - 1).toNat < (dirsL s.Points s.Points.length).length := by omega
     have hd1 := dirsL_bd _ _ _ hi
     have hd2 := dirsL_bd _ _ _ hi2
     have hbb := bendI_bd (at_ (dirsL s.Points s.Points.length) (i - 1).toNat) (at_ (dirsL s.Points s.Points.length) i.toNat)
     refine aw_reg [(3, .dec true)] [0, 3, 4, 5, 6, 19] [] [.ptr false [slPoint false s.Points], I (sumS s.Points s.Points.length), slI true (dirsL s.Points s.Points.length), I bend, I i, Bv true] [] [i < (((dirsL s.Points s.Points.length).length) : Int)] (by kernel_rfl) hB ⟨h3, trivial⟩ ?_
     refine ae_then ?_
     refine aw_true rfl ?_
     refine aw_skip ?_
     refine ae_then ?_
     refine aw_seq ?_
     refine aw_block ?_
     refine aw_reg [(10, .call [(true, I (at_ (dirsL s.Points s.Points.length) ((i - 1).toNat))), (true, I (at_ (dirsL s.Points s.Points.length) i.toNat))] true (I (bendI (at_ (dirsL s.Points s.Points.length) ((i - 1).toNat)) (at_ (dirsL s.Points s.Points.length) i.toNat))))] [0, 3, 4, 5, 6] [] [.ptr false [slPoint false s.Points], I (sumS s.Points s.Points.length), slI true (dirsL s.Points s.Points.length), I (bend + (bendI (at_ (dirsL s.Points s.Points.length) ((i - 1).toNat)) (at_ (dirsL s.Points s.Points.length) i.toNat))), I i] [] [inR .i64 (i - 1), (0 : Int) ≤ (i - 1) ∧ (i - 1) < (((dirsL s.Points s.Points.length).length) : Int), (0 : Int) ≤ i ∧ i < (((dirsL s.Points s.Points.length).length) : Int), Con Tryz.prog 72 [I (at_ (dirsL s.Points s.Points.length) ((i - 1).toNat)), I (at_ (dirsL s.Points s.Points.length) i.toNat)] true (I (bendI (at_ (dirsL s.Points s.Points.length) ((i - 1).toNat)) (at_ (dirsL s.Points s.Points.length) i.toNat))) ∧ ((I (at_ (dirsL s.Points s.Points.length) ((i - 1).toNat)) : AV) = I (at_ (dirsL s.Points s.Points.length) ((i - 1).toNat))) ∧ ((I (at_ (dirsL s.Points s.Points.length) i.toNat) : AV) = I (at_ (dirsL s.Points s.Points.length) i.toNat)) ∧ True, inR .i64 (bend + (bendI (at_ (dirsL s.Points s.Points.length) ((i - 1).toNat)) (at_ (dirsL s.Points s.Points.length) i.toNat)))] (by kernel_rfl) hB ⟨(inR_i64 (by omega) (by omega)), ⟨(by omega), (by omega)⟩, ⟨(by omega), (by omega)⟩, ⟨(l05Bend_ok (at_ (dirsL s.Points s.Points.length) ((i - 1).toNat)) (at_ (dirsL s.Points s.Points.length) i.toNat) (by omega) (by omega)), rfl, rfl, trivial⟩, (inR_i64 (by omega) (by omega)), trivial⟩ ?_
     refine ae_block 1 ?_
     refine ae_then ?_
     refine aw_reg [] [0, 3, 4, 5, 6] [] [.ptr false [slPoint false s.Points], I (sumS s.Points s.Points.length), slI true (dirsL s.Points s.Points.length), I (bend + (bendI (at_ (dirsL s.Points s.Points.length) ((i - 1).toNat)) (at_ (dirsL s.Points s.Points.length) i.toNat))), I (i + 1)] [] [inR .i64 (i + 1)] (by kernel_rfl) hB ⟨(inR_i64 (by omega) (by omega)), trivial⟩ ?_
     exact ae_again _ (by omega) ⟨(bend + (bendI (at_ (dirsL s.Points s.Points.length) ((i - 1).toNat)) (at_ (dirsL s.Points s.Points.length) i.toNat))), (i + 1), rfl, (by omega), (by rw [bendS_succ hb0.1, ← hb1] <;> first | rfl | (unfold bendI; omega)), (by first | omega | (unfold bendI at *; omega)), rfl⟩
    ·have hbt : bend = bendT s := by rw [hb1]; unfold bendT; by_cases e : i = 1; (subst e; rw [bendS_one _ _ (by omega), bendS_one _ _ (by omega)]); (congr 1; omega)
     refine aw_reg [(3, .dec false)] [0, 3, 4, 5, 6, 19] [] [.ptr false [slPoint false s.Points], I (sumS s.Points s.Points.length), slI true (dirsL s.Points s.Points.length), I bend, I i, Bv false] [] [¬ (i < (((dirsL s.Points s.Points.length).length) : Int))] (by kernel_rfl) hB ⟨h3, trivial⟩ ?_
     refine ae_then ?_
     refine aw_false rfl ?_
     refine aw_exit ?_
     refine ae_exit_then ?_
     refine ae_exit_then ?_
     refine ae_exit_same ?_
     refine ae_then ?_
     refine aw_seq ?_
     refine aw_seq ?_
     by_cases h4 : 6 ≤ (bend.natAbs : Int)
     ·by_cases h5 : (4 * (segI (at_ s.Points 0) (at_ s.Points (((s.Points.length : Int) - 1).toNat)))) ≤ (sumS s.Points s.Points.length)
      ·refine aw_reg [(1, .call [(true, I bend)] true (I (bend.natAbs : Int))), (2, .dec true), (22, .call [(true, agPoint (at_ s.Points 0)), (true, agPoint (at_ s.Points (((s.Points.length : Int) - 1).toNat)))] true (I (segI (at_ s.Points 0) (at_ s.Points (((s.Points.length : Int) - 1).toNat))))), (25, .dec true)] [0, 60] [] [.ptr false [slPoint false s.Points], Bv true] [] [Con Tryz.prog 73 [I bend] true (I (bend.natAbs : Int)) ∧ ((I bend : AV) = I bend) ∧ True, 6 ≤ (bend.natAbs : Int), (0 : Int) ≤ 0 ∧ 0 < (s.Points.length : Int), inR .i64 ((s.Points.length : Int) - 1), (0 : Int) ≤ ((s.Points.length : Int) - 1) ∧ ((s.Points.length : Int) - 1) < (s.Points.length : Int), Con Tryz.prog 74 [agPoint (at_ s.Points 0), agPoint (at_ s.Points (((s.Points.length : Int) - 1).toNat))] true (I (segI (at_ s.Points 0) (at_ s.Points (((s.Points.length : Int) - 1).toNat)))) ∧ ((agPoint (at_ s.Points 0) : AV) = agPoint (at_ s.Points 0)) ∧ ((agPoint (at_ s.Points (((s.Points.length : Int) - 1).toNat)) : AV) = agPoint (at_ s.Points (((s.Points.length : Int) - 1).toNat))) ∧ True, inR .i64 (4 * (segI (at_ s.Points 0) (at_ s.Points (((s.Points.length : Int) - 1).toNat)))), (4 * (segI (at_ s.Points 0) (at_ s.Points (((s.Points.length : Int) - 1).toNat)))) ≤ (sumS s.Points s.Points.length)] (by kernel_rfl) hB ⟨⟨(l05Size_ok bend (by omega)), rfl, trivial⟩, h4, ⟨(by omega), (by omega)⟩, (inR_i64 (by omega) (by omega)), ⟨(by omega), (by omega)⟩, ⟨(l05Length_ok (at_ s.Points 0) (at_ s.Points (((s.Points.length : Int) - 1).toNat)) (by assumption) (by assumption)), rfl, rfl, trivial⟩, (inR_i64 (by omega) (by omega)), h5, trivial⟩ ?_
       refine ae_then ?_
       refine aw_true rfl ?_
       refine aw_seq ?_
       refine aw_reg [] [2] [] [I 3] [] [] (by kernel_rfl) hB trivial ?_
       refine ae_then ?_
       refine aw_ret ?_
       refine ae_ret_then ?_
       refine ae_ret hB (I 3) (by kernel_rfl) (.inl (by refine congrArg I ?_; unfold gestI endsI; simp_all [hle]; try omega)) rfl (fun _ => trivial)
      ·refine aw_reg [(1, .call [(true, I bend)] true (I (bend.natAbs : Int))), (2, .dec true), (22, .call [(true, agPoint (at_ s.Points 0)), (true, agPoint (at_ s.Points (((s.Points.length : Int) - 1).toNat)))] true (I (segI (at_ s.Points 0) (at_ s.Points (((s.Points.length : Int) - 1).toNat))))), (25, .dec false)] [0, 60] [] [.ptr false [slPoint false s.Points], Bv false] [] [Con Tryz.prog 73 [I bend] true (I (bend.natAbs : Int)) ∧ ((I bend : AV) = I bend) ∧ True, 6 ≤ (bend.natAbs : Int), (0 : Int) ≤ 0 ∧ 0 < (s.Points.length : Int), inR .i64 ((s.Points.length : Int) - 1), (0 : Int) ≤ ((s.Points.length : Int) - 1) ∧ ((s.Points.length : Int) - 1) < (s.Points.length : Int), Con Tryz.prog 74 [agPoint (at_ s.Points 0), agPoint (at_ s.Points (((s.Points.length : Int) - 1).toNat))] true (I (segI (at_ s.Points 0) (at_ s.Points (((s.Points.length : Int) - 1).toNat)))) ∧ ((agPoint (at_ s.Points 0) : AV) = agPoint (at_ s.Points 0)) ∧ ((agPoint (at_ s.Points (((s.Points.length : Int) - 1).toNat)) : AV) = agPoint (at_ s.Points (((s.Points.length : Int) - 1).toNat))) ∧ True, inR .i64 (4 * (segI (at_ s.Points 0) (at_ s.Points (((s.Points.length : Int) - 1).toNat)))), ¬ ((4 * (segI (at_ s.Points 0) (at_ s.Points (((s.Points.length : Int) - 1).toNat)))) ≤ (sumS s.Points s.Points.length))] (by kernel_rfl) hB ⟨⟨(l05Size_ok bend (by omega)), rfl, trivial⟩, h4, ⟨(by omega), (by omega)⟩, (inR_i64 (by omega) (by omega)), ⟨(by omega), (by omega)⟩, ⟨(l05Length_ok (at_ s.Points 0) (at_ s.Points (((s.Points.length : Int) - 1).toNat)) (by assumption) (by assumption)), rfl, rfl, trivial⟩, (inR_i64 (by omega) (by omega)), h5, trivial⟩ ?_
       refine ae_then ?_
       refine aw_false rfl ?_
       refine aw_skip ?_
       refine ae_then ?_
       refine aw_seq ?_
       refine aw_seq ?_
       rcases Bool.eq_false_or_eq_true (caretB s) with h6 | h6
       ·refine aw_reg [(1, .call [(true, .ptr false [slPoint false s.Points])] true (Bv true))] [0, 62] [] [.ptr false [slPoint false s.Points], Bv true] [] [Con Tryz.prog 75 [.ptr false [slPoint false s.Points]] true (Bv true) ∧ ((.ptr false [slPoint false s.Points] : AV) = .ptr false [slPoint false s.Points]) ∧ True] (by kernel_rfl) hB ⟨⟨(con_bool h6 (l23Caret_ok s ok)), rfl, trivial⟩, trivial⟩ ?_
        refine ae_then ?_
        refine aw_true rfl ?_
        refine aw_seq ?_
        refine aw_reg [] [2] [] [I 4] [] [] (by kernel_rfl) hB trivial ?_
        refine ae_then ?_
        refine aw_ret ?_
        refine ae_ret_then ?_
        refine ae_ret hB (I 4) (by kernel_rfl) (.inl (by refine congrArg I ?_; unfold gestI endsI; simp_all [hle]; try omega)) rfl (fun _ => trivial)
       ·refine aw_reg [(1, .call [(true, .ptr false [slPoint false s.Points])] true (Bv false))] [0, 62] [] [.ptr false [slPoint false s.Points], Bv false] [] [Con Tryz.prog 75 [.ptr false [slPoint false s.Points]] true (Bv false) ∧ ((.ptr false [slPoint false s.Points] : AV) = .ptr false [slPoint false s.Points]) ∧ True] (by kernel_rfl) hB ⟨⟨(con_bool h6 (l23Caret_ok s ok)), rfl, trivial⟩, trivial⟩ ?_
        refine ae_then ?_
        refine aw_false rfl ?_
        refine aw_skip ?_
        refine ae_then ?_
        refine aw_seq ?_
        refine aw_seq ?_
        by_cases h7 : 900 ≤ (strI s)
        ·refine aw_reg [(1, .call [(true, .ptr false [slPoint false s.Points])] true (I (strI s))), (2, .dec true)] [65] [] [Bv true] [] [Con Tryz.prog 76 [.ptr false [slPoint false s.Points]] true (I (strI s)) ∧ ((.ptr false [slPoint false s.Points] : AV) = .ptr false [slPoint false s.Points]) ∧ True, 900 ≤ (strI s)] (by kernel_rfl) hB ⟨⟨(l05Straight_ok s ok), rfl, trivial⟩, h7, trivial⟩ ?_
         refine ae_then ?_
         refine aw_true rfl ?_
         refine aw_seq ?_
         refine aw_reg [] [2] [] [I 5] [] [] (by kernel_rfl) hB trivial ?_
         refine ae_then ?_
         refine aw_ret ?_
         refine ae_ret_then ?_
         refine ae_ret hB (I 5) (by kernel_rfl) (.inl (by refine congrArg I ?_; unfold gestI endsI; simp_all [hle]; try omega)) rfl (fun _ => trivial)
        ·refine aw_reg [(1, .call [(true, .ptr false [slPoint false s.Points])] true (I (strI s))), (2, .dec false)] [65] [] [Bv false] [] [Con Tryz.prog 76 [.ptr false [slPoint false s.Points]] true (I (strI s)) ∧ ((.ptr false [slPoint false s.Points] : AV) = .ptr false [slPoint false s.Points]) ∧ True, ¬ (900 ≤ (strI s))] (by kernel_rfl) hB ⟨⟨(l05Straight_ok s ok), rfl, trivial⟩, h7, trivial⟩ ?_
         refine ae_then ?_
         refine aw_false rfl ?_
         refine aw_skip ?_
         refine ae_then ?_
         refine aw_seq ?_
         refine aw_reg [] [2] [] [I 0] [] [] (by kernel_rfl) hB trivial ?_
         refine ae_then ?_
         refine aw_ret ?_
         refine ae_ret hB (I 0) (by kernel_rfl) (.inl (by refine congrArg I ?_; unfold gestI endsI; simp_all [hle]; try omega)) rfl (fun _ => trivial)
     ·refine aw_reg [(1, .call [(true, I bend)] true (I (bend.natAbs : Int))), (2, .dec false)] [0, 60] [] [.ptr false [slPoint false s.Points], Bv false] [] [Con Tryz.prog 73 [I bend] true (I (bend.natAbs : Int)) ∧ ((I bend : AV) = I bend) ∧ True, ¬ (6 ≤ (bend.natAbs : Int))] (by kernel_rfl) hB ⟨⟨(l05Size_ok bend (by omega)), rfl, trivial⟩, h4, trivial⟩ ?_
      refine ae_then ?_
      refine aw_false rfl ?_
      refine aw_skip ?_
      refine ae_then ?_
      refine aw_seq ?_
      refine aw_seq ?_
      rcases Bool.eq_false_or_eq_true (caretB s) with h8 | h8
      ·refine aw_reg [(1, .call [(true, .ptr false [slPoint false s.Points])] true (Bv true))] [0, 62] [] [.ptr false [slPoint false s.Points], Bv true] [] [Con Tryz.prog 75 [.ptr false [slPoint false s.Points]] true (Bv true) ∧ ((.ptr false [slPoint false s.Points] : AV) = .ptr false [slPoint false s.Points]) ∧ True] (by kernel_rfl) hB ⟨⟨(con_bool h8 (l23Caret_ok s ok)), rfl, trivial⟩, trivial⟩ ?_
       refine ae_then ?_
       refine aw_true rfl ?_
       refine aw_seq ?_
       refine aw_reg [] [2] [] [I 4] [] [] (by kernel_rfl) hB trivial ?_
       refine ae_then ?_
       refine aw_ret ?_
       refine ae_ret_then ?_
       refine ae_ret hB (I 4) (by kernel_rfl) (.inl (by refine congrArg I ?_; unfold gestI endsI; simp_all [hle]; try omega)) rfl (fun _ => trivial)
      ·refine aw_reg [(1, .call [(true, .ptr false [slPoint false s.Points])] true (Bv false))] [0, 62] [] [.ptr false [slPoint false s.Points], Bv false] [] [Con Tryz.prog 75 [.ptr false [slPoint false s.Points]] true (Bv false) ∧ ((.ptr false [slPoint false s.Points] : AV) = .ptr false [slPoint false s.Points]) ∧ True] (by kernel_rfl) hB ⟨⟨(con_bool h8 (l23Caret_ok s ok)), rfl, trivial⟩, trivial⟩ ?_
       refine ae_then ?_
       refine aw_false rfl ?_
       refine aw_skip ?_
       refine ae_then ?_
       refine aw_seq ?_
       refine aw_seq ?_
       by_cases h9 : 900 ≤ (strI s)
       ·refine aw_reg [(1, .call [(true, .ptr false [slPoint false s.Points])] true (I (strI s))), (2, .dec true)] [65] [] [Bv true] [] [Con Tryz.prog 76 [.ptr false [slPoint false s.Points]] true (I (strI s)) ∧ ((.ptr false [slPoint false s.Points] : AV) = .ptr false [slPoint false s.Points]) ∧ True, 900 ≤ (strI s)] (by kernel_rfl) hB ⟨⟨(l05Straight_ok s ok), rfl, trivial⟩, h9, trivial⟩ ?_
        refine ae_then ?_
        refine aw_true rfl ?_
        refine aw_seq ?_
        refine aw_reg [] [2] [] [I 5] [] [] (by kernel_rfl) hB trivial ?_
        refine ae_then ?_
        refine aw_ret ?_
        refine ae_ret_then ?_
        refine ae_ret hB (I 5) (by kernel_rfl) (.inl (by refine congrArg I ?_; unfold gestI endsI; simp_all [hle]; try omega)) rfl (fun _ => trivial)
       ·refine aw_reg [(1, .call [(true, .ptr false [slPoint false s.Points])] true (I (strI s))), (2, .dec false)] [65] [] [Bv false] [] [Con Tryz.prog 76 [.ptr false [slPoint false s.Points]] true (I (strI s)) ∧ ((.ptr false [slPoint false s.Points] : AV) = .ptr false [slPoint false s.Points]) ∧ True, ¬ (900 ≤ (strI s))] (by kernel_rfl) hB ⟨⟨(l05Straight_ok s ok), rfl, trivial⟩, h9, trivial⟩ ?_
        refine ae_then ?_
        refine aw_false rfl ?_
        refine aw_skip ?_
        refine ae_then ?_
        refine aw_seq ?_
        refine aw_reg [] [2] [] [I 0] [] [] (by kernel_rfl) hB trivial ?_
        refine ae_then ?_
        refine aw_ret ?_
        refine ae_ret hB (I 0) (by kernel_rfl) (.inl (by refine congrArg I ?_; unfold gestI endsI; simp_all [hle]; try omega)) rfl (fun _ => trivial)


-- spec.GestureOf
theorem specGestureOf_ok (s : Stroke) : Con Tryz.prog 8 [.agg [slPoint false s.Points]] true (.tup [I ((gestR s).1), I ((gestR s).2)]) := by
  refine fn_ok (fn := Tryz.f8) (nt := 7) Tryz.func8 rfl rfl rfl rfl (by simp [taggedL, tagged, tagPoint]) fun B hB => ?_
  refine aw_lens (x := .agg [slPoint false s.Points]) 0 rfl (fun len_s => ?_)
  simp [LenOK, LenL, cPoint, fPoint, slPoint] at len_s
  refine aw_seq ?_
  refine aw_reg [(0, .new 1)] [1] [1] [.ref 1 0] [some (.box [slPoint false s.Points])] [] (by kernel_rfl) hB trivial ?_
  refine ae_then ?_
  refine aw_seq ?_
  refine aw_seq ?_
  rcases Bool.eq_false_or_eq_true (okStroke' s) with h1 | h1
  ·refine aw_reg [(0, .call [(false, .ptr false [slPoint false s.Points])] true (Bv true))] [1, 5] [1] [.ref 1 0, Bv false] [some (.box [slPoint false s.Points])] [Con Tryz.prog 35 [.ptr false [slPoint false s.Points]] true (Bv true) ∧ ((false = true → true = true) ∧ AV.idsL [slPoint false s.Points] = [] ∧ ((false = true → false = true) ∧ 3 = 3 ∧ s.Points.length = s.Points.length ∧ ∀ i, i < s.Points.length → (fPoint s.Points) i = (fPoint s.Points) i ∨ (AV.idsL ((fPoint s.Points) i) = [] ∧ leL (fun _ => none) false ((fPoint s.Points) i) ((fPoint s.Points) i))) ∧ ([] : List AV) = []) ∧ True] (by kernel_rfl) hB ⟨⟨(con_bool h1 (l02Stroke_ok s)), ⟨(fun h => by cases h), rfl, ⟨⟨(fun h => by cases h), rfl, rfl, fun i _ => .inl rfl⟩, rfl⟩⟩, trivial⟩, trivial⟩ ?_
   refine ae_then ?_
   refine aw_false rfl ?_
   refine aw_skip ?_
   refine ae_then ?_
   refine aw_seq ?_
   refine aw_reg [(0, .call [(false, .ptr false [slPoint false s.Points])] true (I (gestI s)))] [2, 3] [] [I (gestI s), I 0] [] [Con Tryz.prog 36 [.ptr false [slPoint false s.Points]] true (I (gestI s)) ∧ ((false = true → true = true) ∧ AV.idsL [slPoint false s.Points] = [] ∧ ((false = true → false = true) ∧ 3 = 3 ∧ s.Points.length = s.Points.length ∧ ∀ i, i < s.Points.length → (fPoint s.Points) i = (fPoint s.Points) i ∨ (AV.idsL ((fPoint s.Points) i) = [] ∧ leL (fun _ => none) false ((fPoint s.Points) i) ((fPoint s.Points) i))) ∧ ([] : List AV) = []) ∧ True] (by kernel_rfl) hB ⟨⟨(l23Gesture_ok s (by assumption)), ⟨(fun h => by cases h), rfl, ⟨⟨(fun h => by cases h), rfl, rfl, fun i _ => .inl rfl⟩, rfl⟩⟩, trivial⟩, trivial⟩ ?_
   refine ae_then ?_
   refine aw_ret ?_
   refine ae_ret hB (.tup [I (gestI s), I 0]) (by kernel_rfl) (.inl (by simp [gestR, *])) rfl (fun _ => (by simp [tagged, taggedL]))
  ·refine aw_reg [(0, .call [(false, .ptr false [slPoint false s.Points])] true (Bv false))] [1, 5] [1] [.ref 1 0, Bv true] [some (.box [slPoint false s.Points])] [Con Tryz.prog 35 [.ptr false [slPoint false s.Points]] true (Bv false) ∧ ((false = true → true = true) ∧ AV.idsL [slPoint false s.Points] = [] ∧ ((false = true → false = true) ∧ 3 = 3 ∧ s.Points.length = s.Points.length ∧ ∀ i, i < s.Points.length → (fPoint s.Points) i = (fPoint s.Points) i ∨ (AV.idsL ((fPoint s.Points) i) = [] ∧ leL (fun _ => none) false ((fPoint s.Points) i) ((fPoint s.Points) i))) ∧ ([] : List AV) = []) ∧ True] (by kernel_rfl) hB ⟨⟨(con_bool h1 (l02Stroke_ok s)), ⟨(fun h => by cases h), rfl, ⟨⟨(fun h => by cases h), rfl, rfl, fun i _ => .inl rfl⟩, rfl⟩⟩, trivial⟩, trivial⟩ ?_
   refine ae_then ?_
   refine aw_true rfl ?_
   refine aw_seq ?_
   refine aw_reg [] [2, 3] [] [I 0, I 1] [] [] (by kernel_rfl) hB trivial ?_
   refine ae_then ?_
   refine aw_ret ?_
   refine ae_ret_then ?_
   refine ae_ret hB (.tup [I 0, I 1]) (by kernel_rfl) (.inl (by simp [gestR, *])) rfl (fun _ => (by simp [tagged, taggedL]))


/-- The name of a gesture. -/
def nameB (g : Int) : ByteArray := if g = 0 then (⟨#[110, 111, 110, 101]⟩ : ByteArray) else if g = 1 then (⟨#[116, 97, 112]⟩ : ByteArray) else if g = 2 then (⟨#[115, 116, 114, 105, 107, 101]⟩ : ByteArray) else if g = 3 then (⟨#[99, 105, 114, 99, 108, 101]⟩ : ByteArray) else if g = 4 then (⟨#[99, 97, 114, 101, 116]⟩ : ByteArray) else if g = 5 then (⟨#[108, 105, 110, 101]⟩ : ByteArray) else ⟨#[]⟩
theorem nameB_no {g : Int} (h : inB g 0 5 = false) : nameB g = ⟨#[]⟩ := by
  have h' : ¬ (0 ≤ g ∧ g ≤ 5) := by simp only [inB, decide_eq_false_iff_not] at h; exact h
  unfold nameB
  rw [if_neg (by omega), if_neg (by omega), if_neg (by omega), if_neg (by omega), if_neg (by omega), if_neg (by omega)]
theorem nameB_ne {g : Int} (h : 0 ≤ g ∧ g ≤ 5) : nameB g ≠ ⟨#[]⟩ := by
  have : g = 0 ∨ g = 1 ∨ g = 2 ∨ g = 3 ∨ g = 4 ∨ g = 5 := by omega
  rcases this with rfl | rfl | rfl | rfl | rfl | rfl <;> decide
theorem gestI_bd (s : Stroke) : 0 ≤ gestI s ∧ gestI s ≤ 5 := by unfold gestI; (repeat' split) <;> omega
def revR (s : Stroke) : Int × Int := if okStroke' s then ((revS s.Points s.Points.length).1, 0) else (0, 1)

-- impl.ReversalsOf
theorem implReversalsOf_ok (s : Stroke) : Con Tryz.prog 9 [.agg [slPoint false s.Points]] true (.tup [I ((revR s).1), I ((revR s).2)]) := by
  refine fn_ok (fn := Tryz.f9) (nt := 9) Tryz.func9 rfl rfl rfl rfl (by simp [taggedL, tagged, tagPoint]) fun B hB => ?_
  refine aw_lens (x := .agg [slPoint false s.Points]) 0 rfl (fun len_s => ?_)
  simp [LenOK, LenL, cPoint, fPoint, slPoint] at len_s
  refine aw_seq ?_
  refine aw_reg [(0, .new 1)] [1] [1] [.ref 1 0] [some (.box [slPoint false s.Points])] [] (by kernel_rfl) hB trivial ?_
  refine ae_then ?_
  refine aw_seq ?_
  refine aw_seq ?_
  rcases Bool.eq_false_or_eq_true (okStroke' s) with h1 | h1
  ·refine aw_reg [(1, .call [(true, .agg [slPoint false s.Points])] true (Bv true))] [1, 6] [1] [.ref 1 0, Bv false] [some (.box [slPoint false s.Points])] [Con Tryz.prog 33 [.agg [slPoint false s.Points]] true (Bv true) ∧ ((.agg [slPoint false s.Points] : AV) = .agg [slPoint false s.Points]) ∧ True] (by kernel_rfl) hB ⟨⟨(con_bool h1 (ValidStroke_ok s)), rfl, trivial⟩, trivial⟩ ?_
   refine ae_then ?_
   refine aw_false rfl ?_
   refine aw_skip ?_
   refine ae_then ?_
   refine aw_seq ?_
   refine aw_reg [(1, .call [(true, .agg [slPoint false s.Points])] true (I ((revS s.Points s.Points.length).1)))] [2, 3] [] [I ((revS s.Points s.Points.length).1), I 0] [] [Con Tryz.prog 37 [.agg [slPoint false s.Points]] true (I ((revS s.Points s.Points.length).1)) ∧ ((.agg [slPoint false s.Points] : AV) = .agg [slPoint false s.Points]) ∧ True] (by kernel_rfl) hB ⟨⟨(reversalsOf_ok s (by assumption)), rfl, trivial⟩, trivial⟩ ?_
   refine ae_then ?_
   refine aw_ret ?_
   refine ae_ret hB (.tup [I ((revS s.Points s.Points.length).1), I 0]) (by kernel_rfl) (.inl (by simp [revR, *])) rfl (fun _ => (by simp [tagged, taggedL]))
  ·refine aw_reg [(1, .call [(true, .agg [slPoint false s.Points])] true (Bv false))] [1, 6] [1] [.ref 1 0, Bv true] [some (.box [slPoint false s.Points])] [Con Tryz.prog 33 [.agg [slPoint false s.Points]] true (Bv false) ∧ ((.agg [slPoint false s.Points] : AV) = .agg [slPoint false s.Points]) ∧ True] (by kernel_rfl) hB ⟨⟨(con_bool h1 (ValidStroke_ok s)), rfl, trivial⟩, trivial⟩ ?_
   refine ae_then ?_
   refine aw_true rfl ?_
   refine aw_seq ?_
   refine aw_reg [] [2, 3] [] [I 0, I 1] [] [] (by kernel_rfl) hB trivial ?_
   refine ae_then ?_
   refine aw_ret ?_
   refine ae_ret_then ?_
   refine ae_ret hB (.tup [I 0, I 1]) (by kernel_rfl) (.inl (by simp [revR, *])) rfl (fun _ => (by simp [tagged, taggedL]))


-- spec.ReversalsOf
theorem specReversalsOf_ok (s : Stroke) : Con Tryz.prog 10 [.agg [slPoint false s.Points]] true (.tup [I ((revR s).1), I ((revR s).2)]) := by
  refine fn_ok (fn := Tryz.f10) (nt := 7) Tryz.func10 rfl rfl rfl rfl (by simp [taggedL, tagged, tagPoint]) fun B hB => ?_
  refine aw_lens (x := .agg [slPoint false s.Points]) 0 rfl (fun len_s => ?_)
  simp [LenOK, LenL, cPoint, fPoint, slPoint] at len_s
  refine aw_seq ?_
  refine aw_reg [(0, .new 1)] [1] [1] [.ref 1 0] [some (.box [slPoint false s.Points])] [] (by kernel_rfl) hB trivial ?_
  refine ae_then ?_
  refine aw_seq ?_
  refine aw_seq ?_
  rcases Bool.eq_false_or_eq_true (okStroke' s) with h1 | h1
  ·refine aw_reg [(0, .call [(false, .ptr false [slPoint false s.Points])] true (Bv true))] [1, 5] [1] [.ref 1 0, Bv false] [some (.box [slPoint false s.Points])] [Con Tryz.prog 35 [.ptr false [slPoint false s.Points]] true (Bv true) ∧ ((false = true → true = true) ∧ AV.idsL [slPoint false s.Points] = [] ∧ ((false = true → false = true) ∧ 3 = 3 ∧ s.Points.length = s.Points.length ∧ ∀ i, i < s.Points.length → (fPoint s.Points) i = (fPoint s.Points) i ∨ (AV.idsL ((fPoint s.Points) i) = [] ∧ leL (fun _ => none) false ((fPoint s.Points) i) ((fPoint s.Points) i))) ∧ ([] : List AV) = []) ∧ True] (by kernel_rfl) hB ⟨⟨(con_bool h1 (l02Stroke_ok s)), ⟨(fun h => by cases h), rfl, ⟨⟨(fun h => by cases h), rfl, rfl, fun i _ => .inl rfl⟩, rfl⟩⟩, trivial⟩, trivial⟩ ?_
   refine ae_then ?_
   refine aw_false rfl ?_
   refine aw_skip ?_
   refine ae_then ?_
   refine aw_seq ?_
   refine aw_reg [(0, .call [(false, .ptr false [slPoint false s.Points])] true (I ((revS s.Points s.Points.length).1)))] [2, 3] [] [I ((revS s.Points s.Points.length).1), I 0] [] [Con Tryz.prog 38 [.ptr false [slPoint false s.Points]] true (I ((revS s.Points s.Points.length).1)) ∧ ((false = true → true = true) ∧ AV.idsL [slPoint false s.Points] = [] ∧ ((false = true → false = true) ∧ 3 = 3 ∧ s.Points.length = s.Points.length ∧ ∀ i, i < s.Points.length → (fPoint s.Points) i = (fPoint s.Points) i ∨ (AV.idsL ((fPoint s.Points) i) = [] ∧ leL (fun _ => none) false ((fPoint s.Points) i) ((fPoint s.Points) i))) ∧ ([] : List AV) = []) ∧ True] (by kernel_rfl) hB ⟨⟨(l23Reversals_ok s (by assumption)), ⟨(fun h => by cases h), rfl, ⟨⟨(fun h => by cases h), rfl, rfl, fun i _ => .inl rfl⟩, rfl⟩⟩, trivial⟩, trivial⟩ ?_
   refine ae_then ?_
   refine aw_ret ?_
   refine ae_ret hB (.tup [I ((revS s.Points s.Points.length).1), I 0]) (by kernel_rfl) (.inl (by simp [revR, *])) rfl (fun _ => (by simp [tagged, taggedL]))
  ·refine aw_reg [(0, .call [(false, .ptr false [slPoint false s.Points])] true (Bv false))] [1, 5] [1] [.ref 1 0, Bv true] [some (.box [slPoint false s.Points])] [Con Tryz.prog 35 [.ptr false [slPoint false s.Points]] true (Bv false) ∧ ((false = true → true = true) ∧ AV.idsL [slPoint false s.Points] = [] ∧ ((false = true → false = true) ∧ 3 = 3 ∧ s.Points.length = s.Points.length ∧ ∀ i, i < s.Points.length → (fPoint s.Points) i = (fPoint s.Points) i ∨ (AV.idsL ((fPoint s.Points) i) = [] ∧ leL (fun _ => none) false ((fPoint s.Points) i) ((fPoint s.Points) i))) ∧ ([] : List AV) = []) ∧ True] (by kernel_rfl) hB ⟨⟨(con_bool h1 (l02Stroke_ok s)), ⟨(fun h => by cases h), rfl, ⟨⟨(fun h => by cases h), rfl, rfl, fun i _ => .inl rfl⟩, rfl⟩⟩, trivial⟩, trivial⟩ ?_
   refine ae_then ?_
   refine aw_true rfl ?_
   refine aw_seq ?_
   refine aw_reg [] [2, 3] [] [I 0, I 1] [] [] (by kernel_rfl) hB trivial ?_
   refine ae_then ?_
   refine aw_ret ?_
   refine ae_ret_then ?_
   refine ae_ret hB (.tup [I 0, I 1]) (by kernel_rfl) (.inl (by simp [revR, *])) rfl (fun _ => (by simp [tagged, taggedL]))


-- spec.DrawGestureName
theorem DrawGestureName_ok (code : List Int) (hc : (∀ j, j < code.length → 0 ≤ at_ code j ∧ at_ code j ≤ 255) ∧ code.length ≤ 4611686018427387904) : ∃ (v : Int), (-1 ≤ v ∧ v ≤ 7) ∧ Con Tryz.prog 11 [slU8 false code] true (I v) := by
  have hh : ∃ r : Int, ((-1 ≤ r ∧ r ≤ 7) ∧ (True)) ∧ CallOK Tryz.prog 11 [slU8 false code] (lookO []) true (I r) (lookO []) := by
    refine fn_okX (Φ := fun r : Int => (-1 ≤ r ∧ r ≤ 7) ∧ (True)) [] (fun r => []) (fn := Tryz.f11) (nt := 9) Tryz.func11 rfl rfl (args := [slU8 false code]) rfl (allcons (.inl ⟨rfl, tagU8 false _⟩) allnil) (res := fun r => I r) ?_
    refine x_seq ?_
    refine x_reg [] [0] [] [slU8 false code] [] [] (by kernel_rfl) trivial ?_
    refine xe_then ?_
    refine x_seq ?_
    obtain ⟨s'_1, hx1_0, hc1⟩ := l00From_ok code
    have hsrc : okSrc s'_1 := ⟨by rw [hx1_0.1]; exact hc.1, by rw [hx1_0.2]; decide, by rw [hx1_0.1]; exact hc.2⟩
    have hat0 := hx1_0.2
    refine x_reg [(1, .lend [] [(7001, bxl00Src s'_1)] [(true, slU8 false code)] false (.ref 7001 0))] [3] [7001] [.ref 7001 0] [some (bxl00Src s'_1)] [CallOK Tryz.prog 30 [slU8 false code] (lookO []) false (.ref 7001 0) (lookO [(7001, bxl00Src s'_1)]) ∧ ((slU8 false code : AV) = slU8 false code) ∧ True] (by kernel_rfl) ⟨⟨hc1, rfl, trivial⟩, trivial⟩ ?_
    refine xe_then ?_
    refine x_seq ?_
    obtain ⟨v_2, s'_2, hx2_0, hx2_1, hx2_2, hx2_3, hc2⟩ := pick_ok s'_1 9 (by first | assumption | (simp only [okSrc] at *; simp_all; done)) (by omega)
    refine x_reg [(1, .lend [(7001, bxl00Src s'_1, bxl00Src s'_2)] [] [(true, .ref 7001 0), (true, I 9)] true (I v_2))] [2] [] [I (v_2 - 1)] [] [CallOK Tryz.prog 39 [.ref 7001 0, I 9] (lookO [(7001, bxl00Src s'_1)]) true (I v_2) (lookO [(7001, bxl00Src s'_2)]) ∧ ((.ref 7001 0 : AV) = .ref 7001 0) ∧ ((I 9 : AV) = I 9) ∧ (((bxl00Src s'_1 : Ob) = bxl00Src s'_1 ∨ obLe noOb true (bxl00Src s'_1) (bxl00Src s'_1)) ∧ taggedO false (bxl00Src s'_1)) ∧ True, inR .i64 (v_2 - 1)] (by kernel_rfl) ⟨⟨hc2, rfl, rfl, ⟨.inl rfl, (by simp [taggedO, taggedL, tagged, tagU8])⟩, trivial⟩, (inR_i64 (by omega) (by omega)), trivial⟩ ?_
    refine xe_then ?_
    refine x_ret ?_
    refine xe_end (v_2 - 1) (show (-1 ≤ (v_2 - 1) ∧ (v_2 - 1) ≤ 7) ∧ (True) from ⟨(by first | omega | assumption | rfl | (simp; done) | (simp; omega) | (simp_all; done)), trivial⟩) (trivial) (I (v_2 - 1)) (by kernel_rfl) (.inl rfl) (fun _ => rfl) (fun _ => trivial)
  obtain ⟨v, ⟨hh0, _⟩, hc⟩ := hh
  exact ⟨v, hh0, hc⟩


-- spec.l23Bent
theorem l23Bent_ok (s : l00Src) (hs : okSrc s) (ha : s.atx ≤ 3999999999999999800) : ∃ (l : CellRow) (s' : l00Src), (l.Text.size ≤ 300) ∧ (-1 ≤ l.X ∧ l.X ≤ 4096) ∧ (-1 ≤ l.Y ∧ l.Y ≤ 4096) ∧ (1 ≤ l.Cell ∧ l.Cell ≤ 61) ∧ (okSrc s') ∧ (s'.code = s.code) ∧ (s.atx + 0 ≤ s'.atx ∧ s'.atx ≤ s.atx + 80) ∧ CallOK Tryz.prog 40 [.ref 7001 0] (lookO [(7001, bxl00Src s)]) true (agCellRow l) (lookO [(7001, bxl00Src s')]) := by
  have hh : ∃ r : CellRow × l00Src, ((r.1.Text.size ≤ 300) ∧ (-1 ≤ r.1.X ∧ r.1.X ≤ 4096) ∧ (-1 ≤ r.1.Y ∧ r.1.Y ≤ 4096) ∧ (1 ≤ r.1.Cell ∧ r.1.Cell ≤ 61) ∧ (okSrc r.2) ∧ (r.2.code = s.code) ∧ (s.atx + 0 ≤ r.2.atx ∧ r.2.atx ≤ s.atx + 80) ∧ (True)) ∧ CallOK Tryz.prog 40 [.ref 7001 0] (lookO [(7001, bxl00Src s)]) true (agCellRow r.1) (lookO [(7001, bxl00Src r.2)]) := by
    refine fn_okX (Φ := fun r : CellRow × l00Src => (r.1.Text.size ≤ 300) ∧ (-1 ≤ r.1.X ∧ r.1.X ≤ 4096) ∧ (-1 ≤ r.1.Y ∧ r.1.Y ≤ 4096) ∧ (1 ≤ r.1.Cell ∧ r.1.Cell ≤ 61) ∧ (okSrc r.2) ∧ (r.2.code = s.code) ∧ (s.atx + 0 ≤ r.2.atx ∧ r.2.atx ≤ s.atx + 80) ∧ (True)) [(7001, bxl00Src s)] (fun r => [(7001, bxl00Src r.2)]) (fn := Tryz.f40) (nt := 51) Tryz.func40 rfl rfl (args := [.ref 7001 0]) rfl (allcons (.inr trivial) allnil) (res := fun r => agCellRow r.1) ?_
    refine x_seq ?_
    refine x_reg [(0, .new 2)] [0, 2] [2, 7001] [.ref 7001 0, .ref 2 0] [some (.box [Sv (⟨#[]⟩ : ByteArray), I 0, I 0, I 0]), some (bxl00Src s)] [] (by kernel_rfl) trivial ?_
    refine xe_then ?_
    refine x_seq ?_
    obtain ⟨l_1, s'_1, hx1_0, hx1_1, hx1_2, hx1_3, hx1_4, hx1_5, hx1_6, hc1⟩ := l23Row_ok s (by first | assumption | (simp only [okSrc] at *; simp_all; done)) (by omega)
    refine x_reg [(1, .lend [(7001, bxl00Src s, bxl00Src s'_1)] [] [(true, .ref 7001 0)] true (agCellRow l_1)), (2, .new 3)] [0, 2, 3] [2, 3, 7001] [.ref 7001 0, .ref 2 0, .ref 3 0] [some (.box [Sv (⟨#[]⟩ : ByteArray), I 0, I 0, I 0]), some (bxCellRow l_1), some (bxl00Src s'_1)] [CallOK Tryz.prog 31 [.ref 7001 0] (lookO [(7001, bxl00Src s)]) true (agCellRow l_1) (lookO [(7001, bxl00Src s'_1)]) ∧ ((.ref 7001 0 : AV) = .ref 7001 0) ∧ (((bxl00Src s : Ob) = bxl00Src s ∨ obLe noOb true (bxl00Src s) (bxl00Src s)) ∧ taggedO false (bxl00Src s)) ∧ True] (by kernel_rfl) ⟨⟨hc1, rfl, ⟨.inl rfl, (by simp [taggedO, taggedL, tagged, tagU8])⟩, trivial⟩, trivial⟩ ?_
    refine xe_then ?_
    refine x_seq ?_
    refine x_seq ?_
    obtain ⟨v_2, s'_2, hx2_0, hx2_1, hx2_2, hx2_3, hc2⟩ := pick_ok s'_1 24 (by first | assumption | (simp only [okSrc] at *; simp_all; done)) (by omega)
    refine x_reg [(1, .lend [(7001, bxl00Src s'_1, bxl00Src s'_2)] [] [(true, .ref 7001 0), (true, I 24)] true (I v_2))] [0, 2, 3, 8] [2, 3, 7001] [.ref 7001 0, .ref 2 0, .ref 3 0, I v_2] [some (.box [Sv (⟨#[]⟩ : ByteArray), I 0, I 0, I 0]), some (bxCellRow l_1), some (bxl00Src s'_2)] [CallOK Tryz.prog 39 [.ref 7001 0, I 24] (lookO [(7001, bxl00Src s'_1)]) true (I v_2) (lookO [(7001, bxl00Src s'_2)]) ∧ ((.ref 7001 0 : AV) = .ref 7001 0) ∧ ((I 24 : AV) = I 24) ∧ (((bxl00Src s'_1 : Ob) = bxl00Src s'_1 ∨ obLe noOb true (bxl00Src s'_1) (bxl00Src s'_1)) ∧ taggedO false (bxl00Src s'_1)) ∧ True] (by kernel_rfl) ⟨⟨hc2, rfl, rfl, ⟨.inl rfl, (by simp [taggedO, taggedL, tagged, tagU8])⟩, trivial⟩, trivial⟩ ?_
    refine xe_then ?_
    refine x_block ?_
    refine x_seq ?_
    by_cases h1 : v_2 = 0
    ·refine x_reg [(0, .dec true)] [0, 2, 3, 8, 9] [2, 3, 7001] [.ref 7001 0, .ref 2 0, .ref 3 0, I v_2, Bv true] [some (.box [Sv (⟨#[]⟩ : ByteArray), I 0, I 0, I 0]), some (bxCellRow l_1), some (bxl00Src s'_2)] [v_2 = 0] (by kernel_rfl) ⟨h1, trivial⟩ ?_
     refine xe_then ?_
     refine x_true rfl ?_
     obtain ⟨v_3, s'_3, hx3_0, hx3_1, hx3_2, hx3_3, hc3⟩ := text_ok s'_2 ([(⟨#[65]⟩ : ByteArray), (⟨#[45]⟩ : ByteArray), (⟨#[97, 98]⟩ : ByteArray)]) (by first | assumption | (simp only [okSrc] at *; simp_all; done)) (by omega) (by decide)
     refine x_reg [(3, .new 14), (4, .lend [(7001, bxl00Src s'_2, bxl00Src s'_3)] [] [(true, .ref 7001 0), (false, slS false ([(⟨#[65]⟩ : ByteArray), (⟨#[45]⟩ : ByteArray), (⟨#[97, 98]⟩ : ByteArray)]))] true (Sv v_3))] [2, 3] [2, 3, 7001] [.ref 2 0, .ref 3 0] [some (.box [Sv (⟨#[]⟩ : ByteArray), I 0, I 0, I 0]), some (.box [Sv (l_1.Text ++ v_3), I l_1.X, I l_1.Y, I l_1.Cell]), some (bxl00Src s'_3)] [CallOK Tryz.prog 58 [.ref 7001 0, slS false ([(⟨#[65]⟩ : ByteArray), (⟨#[45]⟩ : ByteArray), (⟨#[97, 98]⟩ : ByteArray)])] (lookO [(7001, bxl00Src s'_2)]) true (Sv v_3) (lookO [(7001, bxl00Src s'_3)]) ∧ ((.ref 7001 0 : AV) = .ref 7001 0) ∧ ((false = true → true = true) ∧ 1 = 1 ∧ 3 = (([(⟨#[65]⟩ : ByteArray), (⟨#[45]⟩ : ByteArray), (⟨#[97, 98]⟩ : ByteArray)]).length) ∧ ∀ i, i < (([(⟨#[65]⟩ : ByteArray), (⟨#[45]⟩ : ByteArray), (⟨#[97, 98]⟩ : ByteArray)]).length) → (litF [Sv (⟨#[65]⟩ : ByteArray), Sv (⟨#[45]⟩ : ByteArray), Sv (⟨#[97, 98]⟩ : ByteArray)] 1) i = (fS ([(⟨#[65]⟩ : ByteArray), (⟨#[45]⟩ : ByteArray), (⟨#[97, 98]⟩ : ByteArray)])) i ∨ (AV.idsL ((fS ([(⟨#[65]⟩ : ByteArray), (⟨#[45]⟩ : ByteArray), (⟨#[97, 98]⟩ : ByteArray)])) i) = [] ∧ leL (fun _ => none) false ((litF [Sv (⟨#[65]⟩ : ByteArray), Sv (⟨#[45]⟩ : ByteArray), Sv (⟨#[97, 98]⟩ : ByteArray)] 1) i) ((fS ([(⟨#[65]⟩ : ByteArray), (⟨#[45]⟩ : ByteArray), (⟨#[97, 98]⟩ : ByteArray)])) i))) ∧ (((bxl00Src s'_2 : Ob) = bxl00Src s'_2 ∨ obLe noOb true (bxl00Src s'_2) (bxl00Src s'_2)) ∧ taggedO false (bxl00Src s'_2)) ∧ True, l_1.Text.size + v_3.size ≤ 9223372036854775807] (by kernel_rfl) ⟨⟨hc3, rfl, ⟨(fun h => by cases h), rfl, (by first | rfl | (simp; done) | (simp; omega) | omega), fun i hi => .inl (match i, hi with | 0, _ => rfl | 1, _ => rfl | 2, _ => rfl | (i + 3), h => absurd h (by simp))⟩, ⟨.inl rfl, (by simp [taggedO, taggedL, tagged, tagU8])⟩, trivial⟩, (by first | omega | (simp only [ByteArray.size_append, ByteArray.size_extract]; omega)), trivial⟩ ?_
     refine xe_block 0 ?_
     refine xe_then ?_
     refine x_seq ?_
     refine x_reg [] [2] [2, 7001] [.ref 2 0] [some (.box [Sv (l_1.Text ++ v_3), I l_1.X, I l_1.Y, I l_1.Cell]), some (bxl00Src s'_3)] [] (by kernel_rfl) trivial ?_
     refine xe_then ?_
     refine x_ret ?_
     refine xe_end ((CellRow.mk (l_1.Text ++ v_3) l_1.X l_1.Y l_1.Cell), s'_3) (show ((CellRow.mk (l_1.Text ++ v_3) l_1.X l_1.Y l_1.Cell).Text.size ≤ 300) ∧ (-1 ≤ (CellRow.mk (l_1.Text ++ v_3) l_1.X l_1.Y l_1.Cell).X ∧ (CellRow.mk (l_1.Text ++ v_3) l_1.X l_1.Y l_1.Cell).X ≤ 4096) ∧ (-1 ≤ (CellRow.mk (l_1.Text ++ v_3) l_1.X l_1.Y l_1.Cell).Y ∧ (CellRow.mk (l_1.Text ++ v_3) l_1.X l_1.Y l_1.Cell).Y ≤ 4096) ∧ (1 ≤ (CellRow.mk (l_1.Text ++ v_3) l_1.X l_1.Y l_1.Cell).Cell ∧ (CellRow.mk (l_1.Text ++ v_3) l_1.X l_1.Y l_1.Cell).Cell ≤ 61) ∧ (okSrc s'_3) ∧ (s'_3.code = s.code) ∧ (s.atx + 0 ≤ s'_3.atx ∧ s'_3.atx ≤ s.atx + 80) ∧ (True) from ⟨(by first | omega | assumption | rfl | (simp only [ByteArray.size_append, ByteArray.size_extract]; omega) | (simp; done) | (simp_all; done)), (by first | omega | assumption | rfl | (simp only [ByteArray.size_append, ByteArray.size_extract]; omega) | (simp; done) | (simp_all; done)), (by first | omega | assumption | rfl | (simp only [ByteArray.size_append, ByteArray.size_extract]; omega) | (simp; done) | (simp_all; done)), (by first | omega | assumption | rfl | (simp only [ByteArray.size_append, ByteArray.size_extract]; omega) | (simp; done) | (simp_all; done)), (by first | omega | assumption | rfl | (simp only [ByteArray.size_append, ByteArray.size_extract]; omega) | (simp; done) | (simp_all; done)), (by first | omega | assumption | rfl | (simp only [ByteArray.size_append, ByteArray.size_extract]; omega) | (simp; done) | (simp_all; done)), (by first | omega | assumption | rfl | (simp only [ByteArray.size_append, ByteArray.size_extract]; omega) | (simp; done) | (simp_all; done)), trivial⟩) (⟨.inl rfl, trivial⟩) (.agg [Sv (l_1.Text ++ v_3), I l_1.X, I l_1.Y, I l_1.Cell]) (by kernel_rfl) (.inl rfl) (fun _ => rfl) (fun _ => (by simp [tagged, taggedL]))
    ·refine x_reg [(0, .dec false)] [0, 2, 3, 8, 9] [2, 3, 7001] [.ref 7001 0, .ref 2 0, .ref 3 0, I v_2, Bv false] [some (.box [Sv (⟨#[]⟩ : ByteArray), I 0, I 0, I 0]), some (bxCellRow l_1), some (bxl00Src s'_2)] [¬ (v_2 = 0)] (by kernel_rfl) ⟨h1, trivial⟩ ?_
     refine xe_then ?_
     refine x_false rfl ?_
     refine x_seq ?_
     by_cases h2 : v_2 = 1
     ·refine x_reg [(0, .dec true)] [0, 2, 3, 8, 18] [2, 3, 7001] [.ref 7001 0, .ref 2 0, .ref 3 0, I v_2, Bv true] [some (.box [Sv (⟨#[]⟩ : ByteArray), I 0, I 0, I 0]), some (bxCellRow l_1), some (bxl00Src s'_2)] [v_2 = 1] (by kernel_rfl) ⟨h2, trivial⟩ ?_
      refine xe_then ?_
      refine x_true rfl ?_
      obtain ⟨v_4, s'_4, hx4_0, hx4_1, hx4_2, hx4_3, hc4⟩ := among_ok s'_2 ([(-1), 0, 4095, 4096]) (by first | assumption | (simp only [okSrc] at *; simp_all; done)) (by omega) (by simp)
      have ham_v_4 : v_4 = (-1) ∨ v_4 = 0 ∨ v_4 = 4095 ∨ v_4 = 4096 := by simpa using hx4_0
      refine x_reg [(1, .new 21), (2, .lend [(7001, bxl00Src s'_2, bxl00Src s'_4)] [] [(true, .ref 7001 0), (false, slI false ([(-1), 0, 4095, 4096]))] true (I v_4))] [2, 3] [2, 3, 7001] [.ref 2 0, .ref 3 0] [some (.box [Sv (⟨#[]⟩ : ByteArray), I 0, I 0, I 0]), some (.box [Sv l_1.Text, I v_4, I l_1.Y, I l_1.Cell]), some (bxl00Src s'_4)] [CallOK Tryz.prog 42 [.ref 7001 0, slI false ([(-1), 0, 4095, 4096])] (lookO [(7001, bxl00Src s'_2)]) true (I v_4) (lookO [(7001, bxl00Src s'_4)]) ∧ ((.ref 7001 0 : AV) = .ref 7001 0) ∧ ((false = true → true = true) ∧ 1 = 1 ∧ 4 = (([(-1), 0, 4095, 4096]).length) ∧ ∀ i, i < (([(-1), 0, 4095, 4096]).length) → (litF [I (-1), I 0, I 4095, I 4096] 1) i = (fI ([(-1), 0, 4095, 4096])) i ∨ (AV.idsL ((fI ([(-1), 0, 4095, 4096])) i) = [] ∧ leL (fun _ => none) false ((litF [I (-1), I 0, I 4095, I 4096] 1) i) ((fI ([(-1), 0, 4095, 4096])) i))) ∧ (((bxl00Src s'_2 : Ob) = bxl00Src s'_2 ∨ obLe noOb true (bxl00Src s'_2) (bxl00Src s'_2)) ∧ taggedO false (bxl00Src s'_2)) ∧ True] (by kernel_rfl) ⟨⟨hc4, rfl, ⟨(fun h => by cases h), rfl, (by first | rfl | (simp; done) | (simp; omega) | omega), fun i hi => .inl (match i, hi with | 0, _ => rfl | 1, _ => rfl | 2, _ => rfl | 3, _ => rfl | (i + 4), h => absurd h (by simp))⟩, ⟨.inl rfl, (by simp [taggedO, taggedL, tagged, tagU8])⟩, trivial⟩, trivial⟩ ?_
      refine xe_block 0 ?_
      refine xe_then ?_
      refine x_seq ?_
      refine x_reg [] [2] [2, 7001] [.ref 2 0] [some (.box [Sv l_1.Text, I v_4, I l_1.Y, I l_1.Cell]), some (bxl00Src s'_4)] [] (by kernel_rfl) trivial ?_
      refine xe_then ?_
      refine x_ret ?_
      refine xe_end ((CellRow.mk l_1.Text v_4 l_1.Y l_1.Cell), s'_4) (show ((CellRow.mk l_1.Text v_4 l_1.Y l_1.Cell).Text.size ≤ 300) ∧ (-1 ≤ (CellRow.mk l_1.Text v_4 l_1.Y l_1.Cell).X ∧ (CellRow.mk l_1.Text v_4 l_1.Y l_1.Cell).X ≤ 4096) ∧ (-1 ≤ (CellRow.mk l_1.Text v_4 l_1.Y l_1.Cell).Y ∧ (CellRow.mk l_1.Text v_4 l_1.Y l_1.Cell).Y ≤ 4096) ∧ (1 ≤ (CellRow.mk l_1.Text v_4 l_1.Y l_1.Cell).Cell ∧ (CellRow.mk l_1.Text v_4 l_1.Y l_1.Cell).Cell ≤ 61) ∧ (okSrc s'_4) ∧ (s'_4.code = s.code) ∧ (s.atx + 0 ≤ s'_4.atx ∧ s'_4.atx ≤ s.atx + 80) ∧ (True) from ⟨(by first | omega | assumption | rfl | (simp only [ByteArray.size_append, ByteArray.size_extract]; omega) | (simp; done) | (simp_all; done)), (by first | omega | assumption | rfl | (simp only [ByteArray.size_append, ByteArray.size_extract]; omega) | (simp; done) | (simp_all; done)), (by first | omega | assumption | rfl | (simp only [ByteArray.size_append, ByteArray.size_extract]; omega) | (simp; done) | (simp_all; done)), (by first | omega | assumption | rfl | (simp only [ByteArray.size_append, ByteArray.size_extract]; omega) | (simp; done) | (simp_all; done)), (by first | omega | assumption | rfl | (simp only [ByteArray.size_append, ByteArray.size_extract]; omega) | (simp; done) | (simp_all; done)), (by first | omega | assumption | rfl | (simp only [ByteArray.size_append, ByteArray.size_extract]; omega) | (simp; done) | (simp_all; done)), (by first | omega | assumption | rfl | (simp only [ByteArray.size_append, ByteArray.size_extract]; omega) | (simp; done) | (simp_all; done)), trivial⟩) (⟨.inl rfl, trivial⟩) (.agg [Sv l_1.Text, I v_4, I l_1.Y, I l_1.Cell]) (by kernel_rfl) (.inl rfl) (fun _ => rfl) (fun _ => (by simp [tagged, taggedL]))
     ·refine x_reg [(0, .dec false)] [0, 2, 3, 8, 18] [2, 3, 7001] [.ref 7001 0, .ref 2 0, .ref 3 0, I v_2, Bv false] [some (.box [Sv (⟨#[]⟩ : ByteArray), I 0, I 0, I 0]), some (bxCellRow l_1), some (bxl00Src s'_2)] [¬ (v_2 = 1)] (by kernel_rfl) ⟨h2, trivial⟩ ?_
      refine xe_then ?_
      refine x_false rfl ?_
      refine x_seq ?_
      by_cases h3 : v_2 = 2
      ·refine x_reg [(0, .dec true)] [0, 2, 3, 8, 24] [2, 3, 7001] [.ref 7001 0, .ref 2 0, .ref 3 0, I v_2, Bv true] [some (.box [Sv (⟨#[]⟩ : ByteArray), I 0, I 0, I 0]), some (bxCellRow l_1), some (bxl00Src s'_2)] [v_2 = 2] (by kernel_rfl) ⟨h3, trivial⟩ ?_
       refine xe_then ?_
       refine x_true rfl ?_
       obtain ⟨v_5, s'_5, hx5_0, hx5_1, hx5_2, hx5_3, hc5⟩ := among_ok s'_2 ([1, 2, 60, 61]) (by first | assumption | (simp only [okSrc] at *; simp_all; done)) (by omega) (by simp)
       have ham_v_5 : v_5 = 1 ∨ v_5 = 2 ∨ v_5 = 60 ∨ v_5 = 61 := by simpa using hx5_0
       refine x_reg [(1, .new 27), (2, .lend [(7001, bxl00Src s'_2, bxl00Src s'_5)] [] [(true, .ref 7001 0), (false, slI false ([1, 2, 60, 61]))] true (I v_5))] [2, 3] [2, 3, 7001] [.ref 2 0, .ref 3 0] [some (.box [Sv (⟨#[]⟩ : ByteArray), I 0, I 0, I 0]), some (.box [Sv l_1.Text, I l_1.X, I l_1.Y, I v_5]), some (bxl00Src s'_5)] [CallOK Tryz.prog 42 [.ref 7001 0, slI false ([1, 2, 60, 61])] (lookO [(7001, bxl00Src s'_2)]) true (I v_5) (lookO [(7001, bxl00Src s'_5)]) ∧ ((.ref 7001 0 : AV) = .ref 7001 0) ∧ ((false = true → true = true) ∧ 1 = 1 ∧ 4 = (([1, 2, 60, 61]).length) ∧ ∀ i, i < (([1, 2, 60, 61]).length) → (litF [I 1, I 2, I 60, I 61] 1) i = (fI ([1, 2, 60, 61])) i ∨ (AV.idsL ((fI ([1, 2, 60, 61])) i) = [] ∧ leL (fun _ => none) false ((litF [I 1, I 2, I 60, I 61] 1) i) ((fI ([1, 2, 60, 61])) i))) ∧ (((bxl00Src s'_2 : Ob) = bxl00Src s'_2 ∨ obLe noOb true (bxl00Src s'_2) (bxl00Src s'_2)) ∧ taggedO false (bxl00Src s'_2)) ∧ True] (by kernel_rfl) ⟨⟨hc5, rfl, ⟨(fun h => by cases h), rfl, (by first | rfl | (simp; done) | (simp; omega) | omega), fun i hi => .inl (match i, hi with | 0, _ => rfl | 1, _ => rfl | 2, _ => rfl | 3, _ => rfl | (i + 4), h => absurd h (by simp))⟩, ⟨.inl rfl, (by simp [taggedO, taggedL, tagged, tagU8])⟩, trivial⟩, trivial⟩ ?_
       refine xe_block 0 ?_
       refine xe_then ?_
       refine x_seq ?_
       refine x_reg [] [2] [2, 7001] [.ref 2 0] [some (.box [Sv l_1.Text, I l_1.X, I l_1.Y, I v_5]), some (bxl00Src s'_5)] [] (by kernel_rfl) trivial ?_
       refine xe_then ?_
       refine x_ret ?_
       refine xe_end ((CellRow.mk l_1.Text l_1.X l_1.Y v_5), s'_5) (show ((CellRow.mk l_1.Text l_1.X l_1.Y v_5).Text.size ≤ 300) ∧ (-1 ≤ (CellRow.mk l_1.Text l_1.X l_1.Y v_5).X ∧ (CellRow.mk l_1.Text l_1.X l_1.Y v_5).X ≤ 4096) ∧ (-1 ≤ (CellRow.mk l_1.Text l_1.X l_1.Y v_5).Y ∧ (CellRow.mk l_1.Text l_1.X l_1.Y v_5).Y ≤ 4096) ∧ (1 ≤ (CellRow.mk l_1.Text l_1.X l_1.Y v_5).Cell ∧ (CellRow.mk l_1.Text l_1.X l_1.Y v_5).Cell ≤ 61) ∧ (okSrc s'_5) ∧ (s'_5.code = s.code) ∧ (s.atx + 0 ≤ s'_5.atx ∧ s'_5.atx ≤ s.atx + 80) ∧ (True) from ⟨(by first | omega | assumption | rfl | (simp only [ByteArray.size_append, ByteArray.size_extract]; omega) | (simp; done) | (simp_all; done)), (by first | omega | assumption | rfl | (simp only [ByteArray.size_append, ByteArray.size_extract]; omega) | (simp; done) | (simp_all; done)), (by first | omega | assumption | rfl | (simp only [ByteArray.size_append, ByteArray.size_extract]; omega) | (simp; done) | (simp_all; done)), (by first | omega | assumption | rfl | (simp only [ByteArray.size_append, ByteArray.size_extract]; omega) | (simp; done) | (simp_all; done)), (by first | omega | assumption | rfl | (simp only [ByteArray.size_append, ByteArray.size_extract]; omega) | (simp; done) | (simp_all; done)), (by first | omega | assumption | rfl | (simp only [ByteArray.size_append, ByteArray.size_extract]; omega) | (simp; done) | (simp_all; done)), (by first | omega | assumption | rfl | (simp only [ByteArray.size_append, ByteArray.size_extract]; omega) | (simp; done) | (simp_all; done)), trivial⟩) (⟨.inl rfl, trivial⟩) (.agg [Sv l_1.Text, I l_1.X, I l_1.Y, I v_5]) (by kernel_rfl) (.inl rfl) (fun _ => rfl) (fun _ => (by simp [tagged, taggedL]))
      ·refine x_reg [(0, .dec false)] [0, 2, 3, 8, 24] [2, 3, 7001] [.ref 7001 0, .ref 2 0, .ref 3 0, I v_2, Bv false] [some (.box [Sv (⟨#[]⟩ : ByteArray), I 0, I 0, I 0]), some (bxCellRow l_1), some (bxl00Src s'_2)] [¬ (v_2 = 2)] (by kernel_rfl) ⟨h3, trivial⟩ ?_
       refine xe_then ?_
       refine x_false rfl ?_
       refine x_seq ?_
       by_cases h4 : v_2 = 3
       ·refine x_reg [(0, .dec true)] [0, 2, 3, 8, 30] [2, 3, 7001] [.ref 7001 0, .ref 2 0, .ref 3 0, I v_2, Bv true] [some (.box [Sv (⟨#[]⟩ : ByteArray), I 0, I 0, I 0]), some (bxCellRow l_1), some (bxl00Src s'_2)] [v_2 = 3] (by kernel_rfl) ⟨h4, trivial⟩ ?_
        refine xe_then ?_
        refine x_true rfl ?_
        refine x_seq ?_
        refine x_reg [] [0, 2, 3] [2, 3, 7001] [.ref 7001 0, .ref 2 0, .ref 3 0] [some (.box [Sv (⟨#[]⟩ : ByteArray), I 0, I 0, I 0]), some (.box [Sv (⟨#[]⟩ : ByteArray), I l_1.X, I l_1.Y, I l_1.Cell]), some (bxl00Src s'_2)] [] (by kernel_rfl) trivial ?_
        refine xe_then ?_
        refine x_seq ?_
        obtain ⟨v_6, s'_6, hx6_0, hx6_1, hx6_2, hx6_3, hc6⟩ := pick_ok s'_2 2 (by first | assumption | (simp only [okSrc] at *; simp_all; done)) (by omega)
        refine x_reg [(1, .lend [(7001, bxl00Src s'_2, bxl00Src s'_6)] [] [(true, .ref 7001 0), (true, I 2)] true (I v_6))] [2, 3, 4] [2, 3, 7001] [.ref 2 0, .ref 3 0, I (60 + v_6)] [some (.box [Sv (⟨#[]⟩ : ByteArray), I 0, I 0, I 0]), some (.box [Sv (⟨#[]⟩ : ByteArray), I l_1.X, I l_1.Y, I l_1.Cell]), some (bxl00Src s'_6)] [CallOK Tryz.prog 39 [.ref 7001 0, I 2] (lookO [(7001, bxl00Src s'_2)]) true (I v_6) (lookO [(7001, bxl00Src s'_6)]) ∧ ((.ref 7001 0 : AV) = .ref 7001 0) ∧ ((I 2 : AV) = I 2) ∧ (((bxl00Src s'_2 : Ob) = bxl00Src s'_2 ∨ obLe noOb true (bxl00Src s'_2) (bxl00Src s'_2)) ∧ taggedO false (bxl00Src s'_2)) ∧ True, inR .i64 (60 + v_6)] (by kernel_rfl) ⟨⟨hc6, rfl, rfl, ⟨.inl rfl, (by simp [taggedO, taggedL, tagged, tagU8])⟩, trivial⟩, (inR_i64 (by omega) (by omega)), trivial⟩ ?_
        refine xe_then ?_
        refine x_block ?_
        refine x_loop (X := Int × ByteArray) (fun x => mkS [(2, .ref 2 0), (3, .ref 3 0), (4, I x.1)] [(2, .box [Sv (⟨#[]⟩ : ByteArray), I 0, I 0, I 0]), (3, .box [Sv x.2, I l_1.X, I l_1.Y, I l_1.Cell]), (7001, bxl00Src s'_6)]) (fun x => (0 ≤ x.1 ∧ x.1 ≤ 61) ∧ ((x.2.size : Int) ≤ 61 - x.1) ∧ True) (fun x => x.1.toNat) ((60 + v_6), (⟨#[]⟩ : ByteArray)) rfl (show (0 ≤ (60 + v_6) ∧ (60 + v_6) ≤ 61) ∧ (((⟨#[]⟩ : ByteArray).size : Int) ≤ 61 - (60 + v_6)) ∧ True from ⟨(by omega), (by rw [show (⟨#[]⟩ : ByteArray).size = 0 from rfl]; omega), trivial⟩) (fun x hI => ?_)
        obtain ⟨k, tx⟩ := x
        obtain ⟨hk0, hl0, _⟩ : (0 ≤ k ∧ k ≤ 61) ∧ ((tx.size : Int) ≤ 61 - k) ∧ True := hI
        show XW _ _ _ _ (mkS [(2, .ref 2 0), (3, .ref 3 0), (4, I k)] [(2, .box [Sv (⟨#[]⟩ : ByteArray), I 0, I 0, I 0]), (3, .box [Sv tx, I l_1.X, I l_1.Y, I l_1.Cell]), (7001, bxl00Src s'_6)]) _ _
        refine x_seq ?_
        refine x_seq ?_
        by_cases h5 : 0 < k
        ·refine x_reg [(1, .dec true)] [2, 3, 4, 37] [2, 3, 7001] [.ref 2 0, .ref 3 0, I k, Bv true] [some (.box [Sv (⟨#[]⟩ : ByteArray), I 0, I 0, I 0]), some (.box [Sv tx, I l_1.X, I l_1.Y, I l_1.Cell]), some (bxl00Src s'_6)] [0 < k] (by kernel_rfl) ⟨h5, trivial⟩ ?_
         refine xe_then ?_
         refine x_true rfl ?_
         refine x_skip ?_
         refine xe_then ?_
         refine x_seq ?_
         refine x_block ?_
         refine x_reg [] [2, 3, 4] [2, 3, 7001] [.ref 2 0, .ref 3 0, I k] [some (.box [Sv (⟨#[]⟩ : ByteArray), I 0, I 0, I 0]), some (.box [Sv (tx ++ (⟨#[101]⟩ : ByteArray)), I l_1.X, I l_1.Y, I l_1.Cell]), some (bxl00Src s'_6)] [tx.size + (⟨#[101]⟩ : ByteArray).size ≤ 9223372036854775807] (by kernel_rfl) ⟨(by have e0 : (⟨#[101]⟩ : ByteArray).size = 1 := rfl; first | omega | (simp only [ByteArray.size_append, ByteArray.size_extract]; omega)), trivial⟩ ?_
         refine xe_block 2 ?_
         refine xe_then ?_
         refine x_reg [] [2, 3, 4] [2, 3, 7001] [.ref 2 0, .ref 3 0, I (k - 1)] [some (.box [Sv (⟨#[]⟩ : ByteArray), I 0, I 0, I 0]), some (.box [Sv (tx ++ (⟨#[101]⟩ : ByteArray)), I l_1.X, I l_1.Y, I l_1.Cell]), some (bxl00Src s'_6)] [inR .i64 (k - 1)] (by kernel_rfl) ⟨(inR_i64 (by omega) (by omega)), trivial⟩ ?_
         exact xe_again ((k - 1), (tx ++ (⟨#[101]⟩ : ByteArray))) rfl (show (0 ≤ (k - 1) ∧ (k - 1) ≤ 61) ∧ (((tx ++ (⟨#[101]⟩ : ByteArray)).size : Int) ≤ 61 - (k - 1)) ∧ True from ⟨(by omega), (by simp only [ByteArray.size_append]; rw [show (⟨#[101]⟩ : ByteArray).size = 1 from rfl]; omega), trivial⟩) (by show ((k - 1).toNat : Nat) < k.toNat; omega)
        ·refine x_reg [(1, .dec false)] [2, 3, 4, 37] [2, 3, 7001] [.ref 2 0, .ref 3 0, I k, Bv false] [some (.box [Sv (⟨#[]⟩ : ByteArray), I 0, I 0, I 0]), some (.box [Sv tx, I l_1.X, I l_1.Y, I l_1.Cell]), some (bxl00Src s'_6)] [¬ (0 < k)] (by kernel_rfl) ⟨h5, trivial⟩ ?_
         refine xe_then ?_
         refine x_false rfl ?_
         refine x_exit ?_
         refine xe_exit_then ?_
         refine xe_loop_exit ?_
         refine xe_exit_same ?_
         refine xe_block 0 ?_
         refine xe_then ?_
         refine x_seq ?_
         refine x_reg [] [2] [2, 7001] [.ref 2 0] [some (.box [Sv tx, I l_1.X, I l_1.Y, I l_1.Cell]), some (bxl00Src s'_6)] [] (by kernel_rfl) trivial ?_
         refine xe_then ?_
         refine x_ret ?_
         refine xe_end ((CellRow.mk tx l_1.X l_1.Y l_1.Cell), s'_6) (show ((CellRow.mk tx l_1.X l_1.Y l_1.Cell).Text.size ≤ 300) ∧ (-1 ≤ (CellRow.mk tx l_1.X l_1.Y l_1.Cell).X ∧ (CellRow.mk tx l_1.X l_1.Y l_1.Cell).X ≤ 4096) ∧ (-1 ≤ (CellRow.mk tx l_1.X l_1.Y l_1.Cell).Y ∧ (CellRow.mk tx l_1.X l_1.Y l_1.Cell).Y ≤ 4096) ∧ (1 ≤ (CellRow.mk tx l_1.X l_1.Y l_1.Cell).Cell ∧ (CellRow.mk tx l_1.X l_1.Y l_1.Cell).Cell ≤ 61) ∧ (okSrc s'_6) ∧ (s'_6.code = s.code) ∧ (s.atx + 0 ≤ s'_6.atx ∧ s'_6.atx ≤ s.atx + 80) ∧ (True) from ⟨(by first | omega | assumption | rfl | (simp only [ByteArray.size_append, ByteArray.size_extract]; omega) | (simp; done) | (simp_all; done)), (by first | omega | assumption | rfl | (simp only [ByteArray.size_append, ByteArray.size_extract]; omega) | (simp; done) | (simp_all; done)), (by first | omega | assumption | rfl | (simp only [ByteArray.size_append, ByteArray.size_extract]; omega) | (simp; done) | (simp_all; done)), (by first | omega | assumption | rfl | (simp only [ByteArray.size_append, ByteArray.size_extract]; omega) | (simp; done) | (simp_all; done)), (by first | omega | assumption | rfl | (simp only [ByteArray.size_append, ByteArray.size_extract]; omega) | (simp; done) | (simp_all; done)), (by first | omega | assumption | rfl | (simp only [ByteArray.size_append, ByteArray.size_extract]; omega) | (simp; done) | (simp_all; done)), (by first | omega | assumption | rfl | (simp only [ByteArray.size_append, ByteArray.size_extract]; omega) | (simp; done) | (simp_all; done)), trivial⟩) (⟨.inl rfl, trivial⟩) (.agg [Sv tx, I l_1.X, I l_1.Y, I l_1.Cell]) (by kernel_rfl) (.inl rfl) (fun _ => rfl) (fun _ => (by simp [tagged, taggedL]))
       ·refine x_reg [(0, .dec false)] [0, 2, 3, 8, 30] [2, 3, 7001] [.ref 7001 0, .ref 2 0, .ref 3 0, I v_2, Bv false] [some (.box [Sv (⟨#[]⟩ : ByteArray), I 0, I 0, I 0]), some (bxCellRow l_1), some (bxl00Src s'_2)] [¬ (v_2 = 3)] (by kernel_rfl) ⟨h4, trivial⟩ ?_
        refine xe_then ?_
        refine x_false rfl ?_
        refine x_seq ?_
        by_cases h6 : v_2 = 4
        ·refine x_reg [(0, .dec true)] [0, 2, 3, 44] [2, 3, 7001] [.ref 7001 0, .ref 2 0, .ref 3 0, Bv true] [some (.box [Sv (⟨#[]⟩ : ByteArray), I 0, I 0, I 0]), some (bxCellRow l_1), some (bxl00Src s'_2)] [v_2 = 4] (by kernel_rfl) ⟨h6, trivial⟩ ?_
         refine xe_then ?_
         refine x_true rfl ?_
         obtain ⟨v_7, s'_7, hx7_0, hx7_1, hx7_2, hx7_3, hc7⟩ := among_ok s'_2 ([(-1), 4095, 4096]) (by first | assumption | (simp only [okSrc] at *; simp_all; done)) (by omega) (by simp)
         have ham_v_7 : v_7 = (-1) ∨ v_7 = 4095 ∨ v_7 = 4096 := by simpa using hx7_0
         refine x_reg [(1, .new 47), (2, .lend [(7001, bxl00Src s'_2, bxl00Src s'_7)] [] [(true, .ref 7001 0), (false, slI false ([(-1), 4095, 4096]))] true (I v_7))] [2, 3] [2, 3, 7001] [.ref 2 0, .ref 3 0] [some (.box [Sv (⟨#[]⟩ : ByteArray), I 0, I 0, I 0]), some (.box [Sv l_1.Text, I l_1.X, I v_7, I l_1.Cell]), some (bxl00Src s'_7)] [CallOK Tryz.prog 42 [.ref 7001 0, slI false ([(-1), 4095, 4096])] (lookO [(7001, bxl00Src s'_2)]) true (I v_7) (lookO [(7001, bxl00Src s'_7)]) ∧ ((.ref 7001 0 : AV) = .ref 7001 0) ∧ ((false = true → true = true) ∧ 1 = 1 ∧ 3 = (([(-1), 4095, 4096]).length) ∧ ∀ i, i < (([(-1), 4095, 4096]).length) → (litF [I (-1), I 4095, I 4096] 1) i = (fI ([(-1), 4095, 4096])) i ∨ (AV.idsL ((fI ([(-1), 4095, 4096])) i) = [] ∧ leL (fun _ => none) false ((litF [I (-1), I 4095, I 4096] 1) i) ((fI ([(-1), 4095, 4096])) i))) ∧ (((bxl00Src s'_2 : Ob) = bxl00Src s'_2 ∨ obLe noOb true (bxl00Src s'_2) (bxl00Src s'_2)) ∧ taggedO false (bxl00Src s'_2)) ∧ True] (by kernel_rfl) ⟨⟨hc7, rfl, ⟨(fun h => by cases h), rfl, (by first | rfl | (simp; done) | (simp; omega) | omega), fun i hi => .inl (match i, hi with | 0, _ => rfl | 1, _ => rfl | 2, _ => rfl | (i + 3), h => absurd h (by simp))⟩, ⟨.inl rfl, (by simp [taggedO, taggedL, tagged, tagU8])⟩, trivial⟩, trivial⟩ ?_
         refine xe_block 0 ?_
         refine xe_then ?_
         refine x_seq ?_
         refine x_reg [] [2] [2, 7001] [.ref 2 0] [some (.box [Sv l_1.Text, I l_1.X, I v_7, I l_1.Cell]), some (bxl00Src s'_7)] [] (by kernel_rfl) trivial ?_
         refine xe_then ?_
         refine x_ret ?_
         refine xe_end ((CellRow.mk l_1.Text l_1.X v_7 l_1.Cell), s'_7) (show ((CellRow.mk l_1.Text l_1.X v_7 l_1.Cell).Text.size ≤ 300) ∧ (-1 ≤ (CellRow.mk l_1.Text l_1.X v_7 l_1.Cell).X ∧ (CellRow.mk l_1.Text l_1.X v_7 l_1.Cell).X ≤ 4096) ∧ (-1 ≤ (CellRow.mk l_1.Text l_1.X v_7 l_1.Cell).Y ∧ (CellRow.mk l_1.Text l_1.X v_7 l_1.Cell).Y ≤ 4096) ∧ (1 ≤ (CellRow.mk l_1.Text l_1.X v_7 l_1.Cell).Cell ∧ (CellRow.mk l_1.Text l_1.X v_7 l_1.Cell).Cell ≤ 61) ∧ (okSrc s'_7) ∧ (s'_7.code = s.code) ∧ (s.atx + 0 ≤ s'_7.atx ∧ s'_7.atx ≤ s.atx + 80) ∧ (True) from ⟨(by first | omega | assumption | rfl | (simp only [ByteArray.size_append, ByteArray.size_extract]; omega) | (simp; done) | (simp_all; done)), (by first | omega | assumption | rfl | (simp only [ByteArray.size_append, ByteArray.size_extract]; omega) | (simp; done) | (simp_all; done)), (by first | omega | assumption | rfl | (simp only [ByteArray.size_append, ByteArray.size_extract]; omega) | (simp; done) | (simp_all; done)), (by first | omega | assumption | rfl | (simp only [ByteArray.size_append, ByteArray.size_extract]; omega) | (simp; done) | (simp_all; done)), (by first | omega | assumption | rfl | (simp only [ByteArray.size_append, ByteArray.size_extract]; omega) | (simp; done) | (simp_all; done)), (by first | omega | assumption | rfl | (simp only [ByteArray.size_append, ByteArray.size_extract]; omega) | (simp; done) | (simp_all; done)), (by first | omega | assumption | rfl | (simp only [ByteArray.size_append, ByteArray.size_extract]; omega) | (simp; done) | (simp_all; done)), trivial⟩) (⟨.inl rfl, trivial⟩) (.agg [Sv l_1.Text, I l_1.X, I v_7, I l_1.Cell]) (by kernel_rfl) (.inl rfl) (fun _ => rfl) (fun _ => (by simp [tagged, taggedL]))
        ·refine x_reg [(0, .dec false)] [0, 2, 3, 44] [2, 3, 7001] [.ref 7001 0, .ref 2 0, .ref 3 0, Bv false] [some (.box [Sv (⟨#[]⟩ : ByteArray), I 0, I 0, I 0]), some (bxCellRow l_1), some (bxl00Src s'_2)] [¬ (v_2 = 4)] (by kernel_rfl) ⟨h6, trivial⟩ ?_
         refine xe_then ?_
         refine x_false rfl ?_
         refine x_skip ?_
         refine xe_block 0 ?_
         refine xe_then ?_
         refine x_seq ?_
         refine x_reg [] [2] [2, 7001] [.ref 2 0] [some (bxCellRow l_1), some (bxl00Src s'_2)] [] (by kernel_rfl) trivial ?_
         refine xe_then ?_
         refine x_ret ?_
         refine xe_end (l_1, s'_2) (show (l_1.Text.size ≤ 300) ∧ (-1 ≤ l_1.X ∧ l_1.X ≤ 4096) ∧ (-1 ≤ l_1.Y ∧ l_1.Y ≤ 4096) ∧ (1 ≤ l_1.Cell ∧ l_1.Cell ≤ 61) ∧ (okSrc s'_2) ∧ (s'_2.code = s.code) ∧ (s.atx + 0 ≤ s'_2.atx ∧ s'_2.atx ≤ s.atx + 80) ∧ (True) from ⟨(by first | omega | assumption | rfl | (simp only [ByteArray.size_append, ByteArray.size_extract]; omega) | (simp; done) | (simp_all; done)), (by first | omega | assumption | rfl | (simp only [ByteArray.size_append, ByteArray.size_extract]; omega) | (simp; done) | (simp_all; done)), (by first | omega | assumption | rfl | (simp only [ByteArray.size_append, ByteArray.size_extract]; omega) | (simp; done) | (simp_all; done)), (by first | omega | assumption | rfl | (simp only [ByteArray.size_append, ByteArray.size_extract]; omega) | (simp; done) | (simp_all; done)), (by first | omega | assumption | rfl | (simp only [ByteArray.size_append, ByteArray.size_extract]; omega) | (simp; done) | (simp_all; done)), (by first | omega | assumption | rfl | (simp only [ByteArray.size_append, ByteArray.size_extract]; omega) | (simp; done) | (simp_all; done)), (by first | omega | assumption | rfl | (simp only [ByteArray.size_append, ByteArray.size_extract]; omega) | (simp; done) | (simp_all; done)), trivial⟩) (⟨.inl rfl, trivial⟩) (agCellRow l_1) (by kernel_rfl) (.inl rfl) (fun _ => rfl) (fun _ => (by simp [tagged, taggedL]))
  obtain ⟨⟨l, s'⟩, ⟨hh0, hh1, hh2, hh3, hh4, hh5, hh6, _⟩, hc⟩ := hh
  exact ⟨l, s', hh0, hh1, hh2, hh3, hh4, hh5, hh6, hc⟩


-- spec.DrawCellAt
theorem DrawCellAt_ok (code : List Int) (hc : (∀ j, j < code.length → 0 ≤ at_ code j ∧ at_ code j ≤ 255) ∧ code.length ≤ 4611686018427387904) : ∃ (l : CellRow) (x : Int), (l.Text.size ≤ 300) ∧ Con Tryz.prog 12 [slU8 false code] true (.tup [agCellRow l, I x]) := by
  have hh : ∃ r : CellRow × Int, ((r.1.Text.size ≤ 300) ∧ (True)) ∧ CallOK Tryz.prog 12 [slU8 false code] (lookO []) true (.tup [agCellRow r.1, I r.2]) (lookO []) := by
    refine fn_okX (Φ := fun r : CellRow × Int => (r.1.Text.size ≤ 300) ∧ (True)) [] (fun r => []) (fn := Tryz.f12) (nt := 24) Tryz.func12 rfl rfl (args := [slU8 false code]) rfl (allcons (.inl ⟨rfl, tagU8 false _⟩) allnil) (res := fun r => .tup [agCellRow r.1, I r.2]) ?_
    refine x_seq ?_
    refine x_reg [(0, .new 2)] [0, 2] [2] [slU8 false code, .ref 2 0] [some (.box [Sv (⟨#[]⟩ : ByteArray), I 0, I 0, I 0])] [] (by kernel_rfl) trivial ?_
    refine xe_then ?_
    refine x_seq ?_
    obtain ⟨s'_1, hx1_0, hc1⟩ := l00From_ok code
    have hsrc : okSrc s'_1 := ⟨by rw [hx1_0.1]; exact hc.1, by rw [hx1_0.2]; decide, by rw [hx1_0.1]; exact hc.2⟩
    have hat0 := hx1_0.2
    refine x_reg [(1, .lend [] [(7001, bxl00Src s'_1)] [(true, slU8 false code)] false (.ref 7001 0))] [2, 4] [2, 7001] [.ref 2 0, .ref 7001 0] [some (.box [Sv (⟨#[]⟩ : ByteArray), I 0, I 0, I 0]), some (bxl00Src s'_1)] [CallOK Tryz.prog 30 [slU8 false code] (lookO []) false (.ref 7001 0) (lookO [(7001, bxl00Src s'_1)]) ∧ ((slU8 false code : AV) = slU8 false code) ∧ True] (by kernel_rfl) ⟨⟨hc1, rfl, trivial⟩, trivial⟩ ?_
    refine xe_then ?_
    refine x_seq ?_
    obtain ⟨l_2, s'_2, hx2_0, hx2_1, hx2_2, hx2_3, hx2_4, hx2_5, hx2_6, hc2⟩ := l23Bent_ok s'_1 (by first | assumption | (simp only [okSrc] at *; simp_all; done)) (by omega)
    refine x_reg [(1, .lend [(7001, bxl00Src s'_1, bxl00Src s'_2)] [] [(true, .ref 7001 0)] true (agCellRow l_2)), (2, .new 5)] [2, 4, 5] [2, 5, 7001] [.ref 2 0, .ref 7001 0, .ref 5 0] [some (.box [Sv (⟨#[]⟩ : ByteArray), I 0, I 0, I 0]), some (bxCellRow l_2), some (bxl00Src s'_2)] [CallOK Tryz.prog 40 [.ref 7001 0] (lookO [(7001, bxl00Src s'_1)]) true (agCellRow l_2) (lookO [(7001, bxl00Src s'_2)]) ∧ ((.ref 7001 0 : AV) = .ref 7001 0) ∧ (((bxl00Src s'_1 : Ob) = bxl00Src s'_1 ∨ obLe noOb true (bxl00Src s'_1) (bxl00Src s'_1)) ∧ taggedO false (bxl00Src s'_1)) ∧ True] (by kernel_rfl) ⟨⟨hc2, rfl, ⟨.inl rfl, (by simp [taggedO, taggedL, tagged, tagU8])⟩, trivial⟩, trivial⟩ ?_
    refine xe_then ?_
    refine x_seq ?_
    obtain ⟨v_3, s'_3, hx3_0, hx3_1, hx3_2, hx3_3, hc3⟩ := pick_ok s'_2 300 (by first | assumption | (simp only [okSrc] at *; simp_all; done)) (by omega)
    refine x_reg [(3, .lend [(7001, bxl00Src s'_2, bxl00Src s'_3)] [] [(true, .ref 7001 0), (true, I 300)] true (I v_3))] [2, 4, 5, 6] [2, 5, 7001] [.ref 2 0, .ref 7001 0, .ref 5 0, I ((l_2.X + v_3) - 30)] [some (.box [Sv (⟨#[]⟩ : ByteArray), I 0, I 0, I 0]), some (bxCellRow l_2), some (bxl00Src s'_3)] [CallOK Tryz.prog 39 [.ref 7001 0, I 300] (lookO [(7001, bxl00Src s'_2)]) true (I v_3) (lookO [(7001, bxl00Src s'_3)]) ∧ ((.ref 7001 0 : AV) = .ref 7001 0) ∧ ((I 300 : AV) = I 300) ∧ (((bxl00Src s'_2 : Ob) = bxl00Src s'_2 ∨ obLe noOb true (bxl00Src s'_2) (bxl00Src s'_2)) ∧ taggedO false (bxl00Src s'_2)) ∧ True, inR .i64 (l_2.X + v_3), inR .i64 ((l_2.X + v_3) - 30)] (by kernel_rfl) ⟨⟨hc3, rfl, rfl, ⟨.inl rfl, (by simp [taggedO, taggedL, tagged, tagU8])⟩, trivial⟩, (inR_i64 (by omega) (by omega)), (inR_i64 (by omega) (by omega)), trivial⟩ ?_
    refine xe_then ?_
    refine x_seq ?_
    refine x_seq ?_
    obtain ⟨v_4, s'_4, hx4_0, hx4_1, hx4_2, hc4⟩ := one_ok s'_3 12 (by first | assumption | (simp only [okSrc] at *; simp_all; done)) (by omega)
    rcases Bool.eq_false_or_eq_true v_4 with h1 | h1
    ·subst h1
     refine x_reg [(1, .lend [(7001, bxl00Src s'_3, bxl00Src s'_4)] [] [(true, .ref 7001 0), (true, I 12)] true (Bv true))] [2, 4, 5, 6, 18] [2, 5, 7001] [.ref 2 0, .ref 7001 0, .ref 5 0, I ((l_2.X + v_3) - 30), Bv true] [some (.box [Sv (⟨#[]⟩ : ByteArray), I 0, I 0, I 0]), some (bxCellRow l_2), some (bxl00Src s'_4)] [CallOK Tryz.prog 41 [.ref 7001 0, I 12] (lookO [(7001, bxl00Src s'_3)]) true (Bv true) (lookO [(7001, bxl00Src s'_4)]) ∧ ((.ref 7001 0 : AV) = .ref 7001 0) ∧ ((I 12 : AV) = I 12) ∧ (((bxl00Src s'_3 : Ob) = bxl00Src s'_3 ∨ obLe noOb true (bxl00Src s'_3) (bxl00Src s'_3)) ∧ taggedO false (bxl00Src s'_3)) ∧ True] (by kernel_rfl) ⟨⟨hc4, rfl, rfl, ⟨.inl rfl, (by simp [taggedO, taggedL, tagged, tagU8])⟩, trivial⟩, trivial⟩ ?_
     refine xe_then ?_
     refine x_true rfl ?_
     obtain ⟨v_5, s'_5, hx5_0, hx5_1, hx5_2, hx5_3, hc5⟩ := among_ok s'_4 ([(-1), 0, 4095, 4096]) (by first | assumption | (simp only [okSrc] at *; simp_all; done)) (by omega) (by simp)
     refine x_reg [(1, .new 20), (2, .lend [(7001, bxl00Src s'_4, bxl00Src s'_5)] [] [(true, .ref 7001 0), (false, slI false ([(-1), 0, 4095, 4096]))] true (I v_5))] [2, 5, 6] [2, 5] [.ref 2 0, .ref 5 0, I v_5] [some (.box [Sv (⟨#[]⟩ : ByteArray), I 0, I 0, I 0]), some (bxCellRow l_2)] [CallOK Tryz.prog 42 [.ref 7001 0, slI false ([(-1), 0, 4095, 4096])] (lookO [(7001, bxl00Src s'_4)]) true (I v_5) (lookO [(7001, bxl00Src s'_5)]) ∧ ((.ref 7001 0 : AV) = .ref 7001 0) ∧ ((false = true → true = true) ∧ 1 = 1 ∧ 4 = (([(-1), 0, 4095, 4096]).length) ∧ ∀ i, i < (([(-1), 0, 4095, 4096]).length) → (litF [I (-1), I 0, I 4095, I 4096] 1) i = (fI ([(-1), 0, 4095, 4096])) i ∨ (AV.idsL ((fI ([(-1), 0, 4095, 4096])) i) = [] ∧ leL (fun _ => none) false ((litF [I (-1), I 0, I 4095, I 4096] 1) i) ((fI ([(-1), 0, 4095, 4096])) i))) ∧ (((bxl00Src s'_4 : Ob) = bxl00Src s'_4 ∨ obLe noOb true (bxl00Src s'_4) (bxl00Src s'_4)) ∧ taggedO false (bxl00Src s'_4)) ∧ True] (by kernel_rfl) ⟨⟨hc5, rfl, ⟨(fun h => by cases h), rfl, (by first | rfl | (simp; done) | (simp; omega) | omega), fun i hi => .inl (match i, hi with | 0, _ => rfl | 1, _ => rfl | 2, _ => rfl | 3, _ => rfl | (i + 4), h => absurd h (by simp))⟩, ⟨.inl rfl, (by simp [taggedO, taggedL, tagged, tagU8])⟩, trivial⟩, trivial⟩ ?_
     refine xe_then ?_
     refine x_seq ?_
     refine x_reg [] [2, 3] [2] [.ref 2 0, I v_5] [some (bxCellRow l_2)] [] (by kernel_rfl) trivial ?_
     refine xe_then ?_
     refine x_ret ?_
     refine xe_end (l_2, v_5) (show (l_2.Text.size ≤ 300) ∧ (True) from ⟨(by first | omega | assumption | rfl | (simp; done) | (simp; omega) | (simp_all; done)), trivial⟩) (trivial) (.tup [agCellRow l_2, I v_5]) (by kernel_rfl) (.inl rfl) (fun _ => rfl) (fun _ => (by simp [tagged, taggedL]))
    ·subst h1
     refine x_reg [(1, .lend [(7001, bxl00Src s'_3, bxl00Src s'_4)] [] [(true, .ref 7001 0), (true, I 12)] true (Bv false))] [2, 4, 5, 6, 18] [2, 5, 7001] [.ref 2 0, .ref 7001 0, .ref 5 0, I ((l_2.X + v_3) - 30), Bv false] [some (.box [Sv (⟨#[]⟩ : ByteArray), I 0, I 0, I 0]), some (bxCellRow l_2), some (bxl00Src s'_4)] [CallOK Tryz.prog 41 [.ref 7001 0, I 12] (lookO [(7001, bxl00Src s'_3)]) true (Bv false) (lookO [(7001, bxl00Src s'_4)]) ∧ ((.ref 7001 0 : AV) = .ref 7001 0) ∧ ((I 12 : AV) = I 12) ∧ (((bxl00Src s'_3 : Ob) = bxl00Src s'_3 ∨ obLe noOb true (bxl00Src s'_3) (bxl00Src s'_3)) ∧ taggedO false (bxl00Src s'_3)) ∧ True] (by kernel_rfl) ⟨⟨hc4, rfl, rfl, ⟨.inl rfl, (by simp [taggedO, taggedL, tagged, tagU8])⟩, trivial⟩, trivial⟩ ?_
     refine xe_then ?_
     refine x_false rfl ?_
     refine x_skip ?_
     refine xe_then ?_
     refine x_seq ?_
     refine x_reg [] [2, 3] [2] [.ref 2 0, I ((l_2.X + v_3) - 30)] [some (bxCellRow l_2)] [] (by kernel_rfl) trivial ?_
     refine xe_then ?_
     refine x_ret ?_
     refine xe_end (l_2, ((l_2.X + v_3) - 30)) (show (l_2.Text.size ≤ 300) ∧ (True) from ⟨(by first | omega | assumption | rfl | (simp; done) | (simp; omega) | (simp_all; done)), trivial⟩) (trivial) (.tup [agCellRow l_2, I ((l_2.X + v_3) - 30)]) (by kernel_rfl) (.inl rfl) (fun _ => rfl) (fun _ => (by simp [tagged, taggedL]))
  obtain ⟨⟨l, x⟩, ⟨hh0, _⟩, hc⟩ := hh
  exact ⟨l, x, hh0, hc⟩


-- strings.Trim
theorem trim_ok (s t : ByteArray) (hs : s.size ≤ 9223372036854775807) (hcs : t.size < 4294967281) (ha : t.data.toList.all (fun b => decide (b.toNat < 128)) = true) : Con Tryz.prog 79 [Sv s, Sv t] true (Sv (trimB s t)) := by
  refine con_of_calls (vals := [.string s, .string t]) fun w _ => ?_
  refine (Any.strings_Trim_laid Tryz.lays160 (by kernel_rfl) s t w hs hcs (ascii_of_all ha)).mono ?_
  rintro e w' ⟨rfl, hb⟩
  exact ⟨rfl, hb⟩


-- impl.areCells
theorem areCells_ok (text : ByteArray) (ok : text.size ≤ 9223372036854775807) : Con Tryz.prog 48 [Sv text] true (Bv (lettersB text)) := by
  refine fn_ok (fn := Tryz.f48) (nt := 6) Tryz.func48 rfl rfl rfl rfl (by simp [taggedL, tagged]) fun B hB => ?_
  refine aw_seq ?_
  refine aw_reg [] [0] [] [Sv text] [] [] (by kernel_rfl) hB trivial ?_
  refine ae_then ?_
  refine aw_seq ?_
  refine aw_reg [(1, .call [(true, Sv text), (true, Sv (⟨#[97, 98, 99, 100, 101, 102, 103, 104, 105, 106, 107, 108, 109, 110, 111, 112, 113, 114, 115, 116, 117, 118, 119, 120, 121, 122, 48, 49, 50, 51, 52, 53, 54, 55, 56, 57, 32]⟩ : ByteArray))] true (Sv (trimB text (⟨#[97, 98, 99, 100, 101, 102, 103, 104, 105, 106, 107, 108, 109, 110, 111, 112, 113, 114, 115, 116, 117, 118, 119, 120, 121, 122, 48, 49, 50, 51, 52, 53, 54, 55, 56, 57, 32]⟩ : ByteArray))))] [2] [] [Bv (decide ((trimB text (⟨#[97, 98, 99, 100, 101, 102, 103, 104, 105, 106, 107, 108, 109, 110, 111, 112, 113, 114, 115, 116, 117, 118, 119, 120, 121, 122, 48, 49, 50, 51, 52, 53, 54, 55, 56, 57, 32]⟩ : ByteArray)) = (⟨#[]⟩ : ByteArray)))] [] [Con Tryz.prog 79 [Sv text, Sv (⟨#[97, 98, 99, 100, 101, 102, 103, 104, 105, 106, 107, 108, 109, 110, 111, 112, 113, 114, 115, 116, 117, 118, 119, 120, 121, 122, 48, 49, 50, 51, 52, 53, 54, 55, 56, 57, 32]⟩ : ByteArray)] true (Sv (trimB text (⟨#[97, 98, 99, 100, 101, 102, 103, 104, 105, 106, 107, 108, 109, 110, 111, 112, 113, 114, 115, 116, 117, 118, 119, 120, 121, 122, 48, 49, 50, 51, 52, 53, 54, 55, 56, 57, 32]⟩ : ByteArray))) ∧ ((Sv text : AV) = Sv text) ∧ ((Sv (⟨#[97, 98, 99, 100, 101, 102, 103, 104, 105, 106, 107, 108, 109, 110, 111, 112, 113, 114, 115, 116, 117, 118, 119, 120, 121, 122, 48, 49, 50, 51, 52, 53, 54, 55, 56, 57, 32]⟩ : ByteArray) : AV) = Sv (⟨#[97, 98, 99, 100, 101, 102, 103, 104, 105, 106, 107, 108, 109, 110, 111, 112, 113, 114, 115, 116, 117, 118, 119, 120, 121, 122, 48, 49, 50, 51, 52, 53, 54, 55, 56, 57, 32]⟩ : ByteArray)) ∧ True] (by kernel_rfl) hB ⟨⟨(trim_ok text (⟨#[97, 98, 99, 100, 101, 102, 103, 104, 105, 106, 107, 108, 109, 110, 111, 112, 113, 114, 115, 116, 117, 118, 119, 120, 121, 122, 48, 49, 50, 51, 52, 53, 54, 55, 56, 57, 32]⟩ : ByteArray) ok (by decide) (by decide)), rfl, rfl, trivial⟩, trivial⟩ ?_
  refine ae_then ?_
  refine aw_ret ?_
  refine ae_ret hB (Bv (decide ((trimB text (⟨#[97, 98, 99, 100, 101, 102, 103, 104, 105, 106, 107, 108, 109, 110, 111, 112, 113, 114, 115, 116, 117, 118, 119, 120, 121, 122, 48, 49, 50, 51, 52, 53, 54, 55, 56, 57, 32]⟩ : ByteArray)) = (⟨#[]⟩ : ByteArray)))) (by kernel_rfl) (.inl (by refine congrArg Bv ?_; rw [Bool.eq_iff_iff, decide_eq_true_iff]; exact trim_cells text)) rfl (fun _ => trivial)


-- impl.ValidCellRow
theorem ValidCellRow_ok (l : CellRow) (ok : l.Text.size ≤ 9223372036854775807) : Con Tryz.prog 17 [agCellRow l] true (Bv (okRow l)) := by
  refine fn_ok (fn := Tryz.f17) (nt := 27) Tryz.func17 rfl rfl rfl rfl (by simp [taggedL, tagged]) fun B hB => ?_
  refine aw_seq ?_
  refine aw_reg [(0, .new 1)] [1] [1] [.ref 1 0] [some (bxCellRow l)] [] (by kernel_rfl) hB trivial ?_
  refine ae_then ?_
  refine aw_seq ?_
  by_cases h1 : (l.Text.size : Int) ≤ 60
  ·rcases Bool.eq_false_or_eq_true (lettersB l.Text) with h2 | h2
   ·rcases Bool.eq_false_or_eq_true (inB l.X 0 4095) with h3 | h3
    ·rcases Bool.eq_false_or_eq_true (inB l.Y 0 4095) with h4 | h4
     ·refine aw_reg [(3, .dec true), (7, .call [(true, Sv l.Text)] true (Bv true)), (12, .call [(true, I l.X)] true (Bv true)), (17, .call [(true, I l.Y)] true (Bv true)), (22, .call [(true, I l.Cell), (true, I 2), (true, I 60)] true (Bv (inB l.Cell 2 60)))] [2] [] [Bv (inB l.Cell 2 60)] [] [(l.Text.size : Int) ≤ 60, Con Tryz.prog 48 [Sv l.Text] true (Bv true) ∧ ((Sv l.Text : AV) = Sv l.Text) ∧ True, Con Tryz.prog 43 [I l.X] true (Bv true) ∧ ((I l.X : AV) = I l.X) ∧ True, Con Tryz.prog 43 [I l.Y] true (Bv true) ∧ ((I l.Y : AV) = I l.Y) ∧ True, Con Tryz.prog 44 [I l.Cell, I 2, I 60] true (Bv (inB l.Cell 2 60)) ∧ ((I l.Cell : AV) = I l.Cell) ∧ ((I 2 : AV) = I 2) ∧ ((I 60 : AV) = I 60) ∧ True] (by kernel_rfl) hB ⟨h1, ⟨(con_bool h2 (areCells_ok l.Text ok)), rfl, trivial⟩, ⟨(con_bool h3 (isCoord_ok l.X)), rfl, trivial⟩, ⟨(con_bool h4 (isCoord_ok l.Y)), rfl, trivial⟩, ⟨(within_ok l.Cell 2 60), rfl, rfl, rfl, trivial⟩, trivial⟩ ?_
      refine ae_then ?_
      refine aw_ret ?_
      refine ae_ret hB (Bv (inB l.Cell 2 60)) (by kernel_rfl) (.inl (by first | rfl | (refine congrArg Bv ?_; simp [okRow, inB, *]; done) | (refine congrArg Bv ?_; simp [okRow, inB, *]; omega) | (refine congrArg Bv ?_; simp_all [okRow, inB]; done) | (refine congrArg Bv ?_; simp_all [okRow, inB]; omega))) rfl (fun _ => trivial)
     ·refine aw_reg [(3, .dec true), (7, .call [(true, Sv l.Text)] true (Bv true)), (12, .call [(true, I l.X)] true (Bv true)), (17, .call [(true, I l.Y)] true (Bv false))] [2] [] [Bv false] [] [(l.Text.size : Int) ≤ 60, Con Tryz.prog 48 [Sv l.Text] true (Bv true) ∧ ((Sv l.Text : AV) = Sv l.Text) ∧ True, Con Tryz.prog 43 [I l.X] true (Bv true) ∧ ((I l.X : AV) = I l.X) ∧ True, Con Tryz.prog 43 [I l.Y] true (Bv false) ∧ ((I l.Y : AV) = I l.Y) ∧ True] (by kernel_rfl) hB ⟨h1, ⟨(con_bool h2 (areCells_ok l.Text ok)), rfl, trivial⟩, ⟨(con_bool h3 (isCoord_ok l.X)), rfl, trivial⟩, ⟨(con_bool h4 (isCoord_ok l.Y)), rfl, trivial⟩, trivial⟩ ?_
      refine ae_then ?_
      refine aw_ret ?_
      refine ae_ret hB (Bv false) (by kernel_rfl) (.inl (by first | rfl | (refine congrArg Bv ?_; simp [okRow, inB, *]; done) | (refine congrArg Bv ?_; simp [okRow, inB, *]; omega) | (refine congrArg Bv ?_; simp_all [okRow, inB]; done) | (refine congrArg Bv ?_; simp_all [okRow, inB]; omega))) rfl (fun _ => trivial)
    ·refine aw_reg [(3, .dec true), (7, .call [(true, Sv l.Text)] true (Bv true)), (12, .call [(true, I l.X)] true (Bv false))] [2] [] [Bv false] [] [(l.Text.size : Int) ≤ 60, Con Tryz.prog 48 [Sv l.Text] true (Bv true) ∧ ((Sv l.Text : AV) = Sv l.Text) ∧ True, Con Tryz.prog 43 [I l.X] true (Bv false) ∧ ((I l.X : AV) = I l.X) ∧ True] (by kernel_rfl) hB ⟨h1, ⟨(con_bool h2 (areCells_ok l.Text ok)), rfl, trivial⟩, ⟨(con_bool h3 (isCoord_ok l.X)), rfl, trivial⟩, trivial⟩ ?_
     refine ae_then ?_
     refine aw_ret ?_
     refine ae_ret hB (Bv false) (by kernel_rfl) (.inl (by first | rfl | (refine congrArg Bv ?_; simp [okRow, inB, *]; done) | (refine congrArg Bv ?_; simp [okRow, inB, *]; omega) | (refine congrArg Bv ?_; simp_all [okRow, inB]; done) | (refine congrArg Bv ?_; simp_all [okRow, inB]; omega))) rfl (fun _ => trivial)
   ·refine aw_reg [(3, .dec true), (7, .call [(true, Sv l.Text)] true (Bv false))] [2] [] [Bv false] [] [(l.Text.size : Int) ≤ 60, Con Tryz.prog 48 [Sv l.Text] true (Bv false) ∧ ((Sv l.Text : AV) = Sv l.Text) ∧ True] (by kernel_rfl) hB ⟨h1, ⟨(con_bool h2 (areCells_ok l.Text ok)), rfl, trivial⟩, trivial⟩ ?_
    refine ae_then ?_
    refine aw_ret ?_
    refine ae_ret hB (Bv false) (by kernel_rfl) (.inl (by first | rfl | (refine congrArg Bv ?_; simp [okRow, inB, *]; done) | (refine congrArg Bv ?_; simp [okRow, inB, *]; omega) | (refine congrArg Bv ?_; simp_all [okRow, inB]; done) | (refine congrArg Bv ?_; simp_all [okRow, inB]; omega))) rfl (fun _ => trivial)
  ·refine aw_reg [(3, .dec false)] [2] [] [Bv false] [] [¬ ((l.Text.size : Int) ≤ 60)] (by kernel_rfl) hB ⟨h1, trivial⟩ ?_
   refine ae_then ?_
   refine aw_ret ?_
   refine ae_ret hB (Bv false) (by kernel_rfl) (.inl (by first | rfl | (refine congrArg Bv ?_; simp [okRow, inB, *]; done) | (refine congrArg Bv ?_; simp [okRow, inB, *]; omega) | (refine congrArg Bv ?_; simp_all [okRow, inB]; done) | (refine congrArg Bv ?_; simp_all [okRow, inB]; omega))) rfl (fun _ => trivial)


def cellAtR (l : CellRow) (x : Int) : Int × Int := if okRow l = true then (if inB x 0 4095 = true then (if l.X ≤ x ∧ x < l.X + l.Cell * (l.Text.size : Int) then ((x - l.X) / l.Cell, 0) else (0, 3)) else (0, 2)) else (0, 1)
theorem cellAtR_inv {l : CellRow} {x : Int} (h : okRow l = false) : cellAtR l x = (0, 1) := by simp [cellAtR, h]
theorem cellAtR_rng {l : CellRow} {x : Int} (h : okRow l = true) (h2 : inB x 0 4095 = false) : cellAtR l x = (0, 2) := by simp [cellAtR, h, h2]
theorem cellAtR_no {l : CellRow} {x : Int} (h : okRow l = true) (h2 : inB x 0 4095 = true) (h3 : ¬ (l.X ≤ x ∧ x < l.X + l.Cell * (l.Text.size : Int))) : cellAtR l x = (0, 3) := by rw [cellAtR, if_pos h, if_pos h2, if_neg h3]
theorem cellAtR_yes {l : CellRow} {x : Int} (h : okRow l = true) (h2 : inB x 0 4095 = true) (h3 : l.X ≤ x ∧ x < l.X + l.Cell * (l.Text.size : Int)) : cellAtR l x = ((x - l.X) / l.Cell, 0) := by rw [cellAtR, if_pos h, if_pos h2, if_pos h3]
theorem cell_bd {c : Int} {n : Nat} (h1 : 0 ≤ c ∧ c ≤ 60) (h2 : (n : Int) ≤ 60) : 0 ≤ c * (n : Int) ∧ c * (n : Int) ≤ 3600 :=
  ⟨Int.mul_nonneg h1.1 (by omega), Int.le_trans (Int.mul_le_mul_of_nonneg_right h1.2 (by omega)) (by omega)⟩
theorem cell_in {x c : Int} {n : Nat} (hc : 0 < c) : (0 ≤ x / c ∧ x / c ≤ (n : Int) - 1) ↔ 0 ≤ x ∧ x < c * (n : Int) := by
  have h1 : (0 ≤ x / c) ↔ 0 ≤ x := Int.ediv_nonneg_iff_of_pos hc
  have h2 : x / c < (n : Int) ↔ x < (n : Int) * c := Int.ediv_lt_iff_lt_mul hc
  rw [Int.mul_comm c]
  omega

-- impl.CellAt
theorem implCellAt_ok (l : CellRow) (x : Int) (ok : l.Text.size ≤ 9223372036854775807) : Con Tryz.prog 13 [agCellRow l, I x] true (.tup [I ((cellAtR l x).1), I ((cellAtR l x).2)]) := by
  refine fn_ok (fn := Tryz.f13) (nt := 34) Tryz.func13 rfl rfl rfl rfl (by simp [taggedL, tagged]) fun B hB => ?_
  refine aw_seq ?_
  refine aw_reg [(0, .new 2)] [1, 2] [2] [I x, .ref 2 0] [some (bxCellRow l)] [] (by kernel_rfl) hB trivial ?_
  refine ae_then ?_
  refine aw_seq ?_
  refine aw_seq ?_
  rcases Bool.eq_false_or_eq_true (okRow l) with h1 | h1
  ·have hr := okRow_iff.1 h1
   have hcb := cell_bd (c := l.Cell) (n := l.Text.size) (by omega) hr.2.1
   have hci := cell_in (x := x - l.X) (c := l.Cell) (n := l.Text.size) (by omega)
   refine aw_reg [(1, .call [(true, agCellRow l)] true (Bv true))] [1, 2, 8] [2] [I x, .ref 2 0, Bv false] [some (bxCellRow l)] [Con Tryz.prog 17 [agCellRow l] true (Bv true) ∧ ((agCellRow l : AV) = agCellRow l) ∧ True] (by kernel_rfl) hB ⟨⟨(con_bool h1 (ValidCellRow_ok l ok)), rfl, trivial⟩, trivial⟩ ?_
   refine ae_then ?_
   refine aw_false rfl ?_
   refine aw_skip ?_
   refine ae_then ?_
   refine aw_seq ?_
   refine aw_seq ?_
   rcases Bool.eq_false_or_eq_true (inB x 0 4095) with h2 | h2
   ·have hx := inB_iff.1 h2
    refine aw_reg [(1, .call [(true, I x)] true (Bv true))] [1, 2, 11] [2] [I x, .ref 2 0, Bv false] [some (bxCellRow l)] [Con Tryz.prog 43 [I x] true (Bv true) ∧ ((I x : AV) = I x) ∧ True] (by kernel_rfl) hB ⟨⟨(con_bool h2 (isCoord_ok x)), rfl, trivial⟩, trivial⟩ ?_
    refine ae_then ?_
    refine aw_false rfl ?_
    refine aw_skip ?_
    refine ae_then ?_
    refine aw_seq ?_
    refine aw_seq ?_
    rcases Bool.eq_false_or_eq_true (inB x l.X ((l.X + (l.Cell * (l.Text.size : Int))) - 1)) with h3 | h3
    ·have hph3 := inB_iff.1 h3
     refine aw_reg [(13, .call [(true, I x), (true, I l.X), (true, I ((l.X + (l.Cell * (l.Text.size : Int))) - 1))] true (Bv true))] [1, 2, 26] [2] [I x, .ref 2 0, Bv false] [some (bxCellRow l)] [inR .i64 (l.Cell * (l.Text.size : Int)), inR .i64 (l.X + (l.Cell * (l.Text.size : Int))), inR .i64 ((l.X + (l.Cell * (l.Text.size : Int))) - 1), Con Tryz.prog 44 [I x, I l.X, I ((l.X + (l.Cell * (l.Text.size : Int))) - 1)] true (Bv true) ∧ ((I x : AV) = I x) ∧ ((I l.X : AV) = I l.X) ∧ ((I ((l.X + (l.Cell * (l.Text.size : Int))) - 1) : AV) = I ((l.X + (l.Cell * (l.Text.size : Int))) - 1)) ∧ True] (by kernel_rfl) hB ⟨(inR_i64 (by omega) (by omega)), (inR_i64 (by omega) (by omega)), (inR_i64 (by omega) (by omega)), ⟨(con_bool h3 (within_ok x l.X ((l.X + (l.Cell * (l.Text.size : Int))) - 1))), rfl, rfl, rfl, trivial⟩, trivial⟩ ?_
     refine ae_then ?_
     refine aw_false rfl ?_
     refine aw_skip ?_
     refine ae_then ?_
     refine aw_seq ?_
     refine aw_reg [(6, .nn)] [4, 5] [] [I ((x - l.X) / l.Cell), I 0] [] [inR .i64 (x - l.X), (0 : Int) ≤ (x - l.X) ∧ (0 : Int) < l.Cell ∧ inR .i64 (x - l.X)] (by kernel_rfl) hB ⟨(inR_i64 (by omega) (by omega)), ⟨(by omega), (by omega), (inR_i64 (by omega) (by omega))⟩, trivial⟩ ?_
     refine ae_then ?_
     refine aw_ret ?_
     refine ae_ret hB (.tup [I ((x - l.X) / l.Cell), I 0]) (by kernel_rfl) (.inl (by first | (rw [cellAtR_inv (by assumption)]; done) | (rw [cellAtR_rng (by assumption) (by assumption)]; done) | (rw [cellAtR_no (by assumption) (by assumption) (by omega)]; done) | (rw [cellAtR_yes (by assumption) (by assumption) (by omega)]; done))) rfl (fun _ => (by simp [tagged, taggedL]))
    ·have hnh3 := (not_congr inB_iff).1 (Bool.eq_false_iff.1 h3)
     refine aw_reg [(13, .call [(true, I x), (true, I l.X), (true, I ((l.X + (l.Cell * (l.Text.size : Int))) - 1))] true (Bv false))] [1, 2, 26] [2] [I x, .ref 2 0, Bv true] [some (bxCellRow l)] [inR .i64 (l.Cell * (l.Text.size : Int)), inR .i64 (l.X + (l.Cell * (l.Text.size : Int))), inR .i64 ((l.X + (l.Cell * (l.Text.size : Int))) - 1), Con Tryz.prog 44 [I x, I l.X, I ((l.X + (l.Cell * (l.Text.size : Int))) - 1)] true (Bv false) ∧ ((I x : AV) = I x) ∧ ((I l.X : AV) = I l.X) ∧ ((I ((l.X + (l.Cell * (l.Text.size : Int))) - 1) : AV) = I ((l.X + (l.Cell * (l.Text.size : Int))) - 1)) ∧ True] (by kernel_rfl) hB ⟨(inR_i64 (by omega) (by omega)), (inR_i64 (by omega) (by omega)), (inR_i64 (by omega) (by omega)), ⟨(con_bool h3 (within_ok x l.X ((l.X + (l.Cell * (l.Text.size : Int))) - 1))), rfl, rfl, rfl, trivial⟩, trivial⟩ ?_
     refine ae_then ?_
     refine aw_true rfl ?_
     refine aw_seq ?_
     refine aw_reg [] [4, 5] [] [I 0, I 3] [] [] (by kernel_rfl) hB trivial ?_
     refine ae_then ?_
     refine aw_ret ?_
     refine ae_ret_then ?_
     refine ae_ret hB (.tup [I 0, I 3]) (by kernel_rfl) (.inl (by first | (rw [cellAtR_inv (by assumption)]; done) | (rw [cellAtR_rng (by assumption) (by assumption)]; done) | (rw [cellAtR_no (by assumption) (by assumption) (by omega)]; done) | (rw [cellAtR_yes (by assumption) (by assumption) (by omega)]; done))) rfl (fun _ => (by simp [tagged, taggedL]))
   ·have hnh2 := (not_congr inB_iff).1 (Bool.eq_false_iff.1 h2)
    refine aw_reg [(1, .call [(true, I x)] true (Bv false))] [1, 2, 11] [2] [I x, .ref 2 0, Bv true] [some (bxCellRow l)] [Con Tryz.prog 43 [I x] true (Bv false) ∧ ((I x : AV) = I x) ∧ True] (by kernel_rfl) hB ⟨⟨(con_bool h2 (isCoord_ok x)), rfl, trivial⟩, trivial⟩ ?_
    refine ae_then ?_
    refine aw_true rfl ?_
    refine aw_seq ?_
    refine aw_reg [] [4, 5] [] [I 0, I 2] [] [] (by kernel_rfl) hB trivial ?_
    refine ae_then ?_
    refine aw_ret ?_
    refine ae_ret_then ?_
    refine ae_ret hB (.tup [I 0, I 2]) (by kernel_rfl) (.inl (by first | (rw [cellAtR_inv (by assumption)]; done) | (rw [cellAtR_rng (by assumption) (by assumption)]; done) | (rw [cellAtR_no (by assumption) (by assumption) (by omega)]; done) | (rw [cellAtR_yes (by assumption) (by assumption) (by omega)]; done))) rfl (fun _ => (by simp [tagged, taggedL]))
  ·refine aw_reg [(1, .call [(true, agCellRow l)] true (Bv false))] [1, 2, 8] [2] [I x, .ref 2 0, Bv true] [some (bxCellRow l)] [Con Tryz.prog 17 [agCellRow l] true (Bv false) ∧ ((agCellRow l : AV) = agCellRow l) ∧ True] (by kernel_rfl) hB ⟨⟨(con_bool h1 (ValidCellRow_ok l ok)), rfl, trivial⟩, trivial⟩ ?_
   refine ae_then ?_
   refine aw_true rfl ?_
   refine aw_seq ?_
   refine aw_reg [] [4, 5] [] [I 0, I 1] [] [] (by kernel_rfl) hB trivial ?_
   refine ae_then ?_
   refine aw_ret ?_
   refine ae_ret_then ?_
   refine ae_ret hB (.tup [I 0, I 1]) (by kernel_rfl) (.inl (by first | (rw [cellAtR_inv (by assumption)]; done) | (rw [cellAtR_rng (by assumption) (by assumption)]; done) | (rw [cellAtR_no (by assumption) (by assumption) (by omega)]; done) | (rw [cellAtR_yes (by assumption) (by assumption) (by omega)]; done))) rfl (fun _ => (by simp [tagged, taggedL]))


-- spec.l01Small
theorem l01Small_ok (c : Int) : Con Tryz.prog 98 [.val (.int .u8 c)] true (Bv (inB c 97 122)) := by
  refine fn_ok (fn := Tryz.f98) (nt := 9) Tryz.func98 rfl rfl rfl rfl (by simp [taggedL, tagged]) fun B hB => ?_
  refine aw_seq ?_
  refine aw_reg [] [0] [] [.val (.int .u8 c)] [] [] (by kernel_rfl) hB trivial ?_
  refine ae_then ?_
  refine aw_seq ?_
  by_cases h1 : 97 ≤ c
  ·refine aw_reg [(1, .dec true)] [2] [] [Bv (decide (c ≤ 122))] [] [97 ≤ c] (by kernel_rfl) hB ⟨h1, trivial⟩ ?_
   refine ae_then ?_
   refine aw_ret ?_
   refine ae_ret hB (Bv (decide (c ≤ 122))) (by kernel_rfl) (.inl (by first | rfl | (refine congrArg Bv ?_; simp [inB, *]; done) | (refine congrArg Bv ?_; simp [inB, *]; omega) | (refine congrArg Bv ?_; simp_all [inB]; done) | (refine congrArg Bv ?_; simp_all [inB]; omega))) rfl (fun _ => trivial)
  ·refine aw_reg [(1, .dec false)] [2] [] [Bv false] [] [¬ (97 ≤ c)] (by kernel_rfl) hB ⟨h1, trivial⟩ ?_
   refine ae_then ?_
   refine aw_ret ?_
   refine ae_ret hB (Bv false) (by kernel_rfl) (.inl (by first | rfl | (refine congrArg Bv ?_; simp [inB, *]; done) | (refine congrArg Bv ?_; simp [inB, *]; omega) | (refine congrArg Bv ?_; simp_all [inB]; done) | (refine congrArg Bv ?_; simp_all [inB]; omega))) rfl (fun _ => trivial)


-- spec.l01Digit
theorem l01Digit_ok (c : Int) : Con Tryz.prog 99 [.val (.int .u8 c)] true (Bv (inB c 48 57)) := by
  refine fn_ok (fn := Tryz.f99) (nt := 9) Tryz.func99 rfl rfl rfl rfl (by simp [taggedL, tagged]) fun B hB => ?_
  refine aw_seq ?_
  refine aw_reg [] [0] [] [.val (.int .u8 c)] [] [] (by kernel_rfl) hB trivial ?_
  refine ae_then ?_
  refine aw_seq ?_
  by_cases h1 : 48 ≤ c
  ·refine aw_reg [(1, .dec true)] [2] [] [Bv (decide (c ≤ 57))] [] [48 ≤ c] (by kernel_rfl) hB ⟨h1, trivial⟩ ?_
   refine ae_then ?_
   refine aw_ret ?_
   refine ae_ret hB (Bv (decide (c ≤ 57))) (by kernel_rfl) (.inl (by first | rfl | (refine congrArg Bv ?_; simp [inB, *]; done) | (refine congrArg Bv ?_; simp [inB, *]; omega) | (refine congrArg Bv ?_; simp_all [inB]; done) | (refine congrArg Bv ?_; simp_all [inB]; omega))) rfl (fun _ => trivial)
  ·refine aw_reg [(1, .dec false)] [2] [] [Bv false] [] [¬ (48 ≤ c)] (by kernel_rfl) hB ⟨h1, trivial⟩ ?_
   refine ae_then ?_
   refine aw_ret ?_
   refine ae_ret hB (Bv false) (by kernel_rfl) (.inl (by first | rfl | (refine congrArg Bv ?_; simp [inB, *]; done) | (refine congrArg Bv ?_; simp [inB, *]; omega) | (refine congrArg Bv ?_; simp_all [inB]; done) | (refine congrArg Bv ?_; simp_all [inB]; omega))) rfl (fun _ => trivial)


-- spec.l23Letters
theorem l23Letters_ok (s : ByteArray) (ok : s.size ≤ 9223372036854775807) : Con Tryz.prog 78 [Sv s] true (Bv (lettersB s)) := by
  refine fn_ok (fn := Tryz.f78) (nt := 28) Tryz.func78 rfl rfl rfl rfl (by simp [taggedL, tagged]) fun B hB => ?_
  refine aw_seq ?_
  refine aw_reg [] [0] [] [Sv s] [] [] (by kernel_rfl) hB trivial ?_
  refine ae_then ?_
  refine aw_seq ?_
  refine aw_seq ?_
  refine aw_reg [] [0, 3] [] [Sv s, I 0] [] [] (by kernel_rfl) hB trivial ?_
  refine ae_then ?_
  refine aw_block ?_
  refine aw_loop (fun gn gσ => ∃ (i : Int), gn = ((s.size : Int) - i).toNat ∧ (0 ≤ i ∧ i ≤ (s.size : Int)) ∧ (∀ j : Nat, (j : Int) < i → cellB (bAt s j) = true) ∧ gσ = mkS [(0, Sv s), (3, I i)] []) (((s.size : Int) - 0).toNat) ⟨0, rfl, (by omega), (by intro j hj; omega), rfl⟩ (fun gn gσ hI => ?_)
  obtain ⟨i, rfl, hi0, hall0, rfl⟩ := hI
  refine aw_seq ?_
  refine aw_seq ?_
  by_cases h1 : i < (s.size : Int)
  ·have hi : i.toNat < s.size := by omega
   refine aw_reg [(3, .dec true)] [0, 3, 7] [] [Sv s, I i, Bv true] [] [i < (s.size : Int)] (by kernel_rfl) hB ⟨h1, trivial⟩ ?_
   refine ae_then ?_
   refine aw_true rfl ?_
   refine aw_skip ?_
   refine ae_then ?_
   refine aw_seq ?_
   refine aw_block ?_
   refine aw_seq ?_
   rcases Bool.eq_false_or_eq_true (inB (bAt s i.toNat) 97 122) with h2 | h2
   ·refine aw_reg [(3, .call [(true, .val (.int .u8 (bAt s i.toNat)))] true (Bv true))] [0, 3, 27] [] [Sv s, I i, Bv false] [] [(0 : Int) ≤ i ∧ i < (s.size : Int), Con Tryz.prog 98 [.val (.int .u8 (bAt s i.toNat))] true (Bv true) ∧ ((.val (.int .u8 (bAt s i.toNat)) : AV) = .val (.int .u8 (bAt s i.toNat))) ∧ True] (by kernel_rfl) hB ⟨⟨(by omega), (by omega)⟩, ⟨(con_bool h2 (l01Small_ok (bAt s i.toNat))), rfl, trivial⟩, trivial⟩ ?_
    refine ae_then ?_
    refine aw_false rfl ?_
    refine aw_skip ?_
    refine ae_block 1 ?_
    refine ae_then ?_
    refine aw_reg [] [0, 3] [] [Sv s, I (i + 1)] [] [inR .i64 (i + 1)] (by kernel_rfl) hB ⟨(inR_i64 (by omega) (by omega)), trivial⟩ ?_
    exact ae_again _ (by omega) ⟨(i + 1), rfl, (by omega), (by intro j hj; by_cases ej : j = i.toNat; (subst ej; simp_all [cellB]); exact hall0 j (by omega)), rfl⟩
   ·rcases Bool.eq_false_or_eq_true (inB (bAt s i.toNat) 48 57) with h3 | h3
    ·refine aw_reg [(3, .call [(true, .val (.int .u8 (bAt s i.toNat)))] true (Bv false)), (9, .call [(true, .val (.int .u8 (bAt s i.toNat)))] true (Bv true))] [0, 3, 27] [] [Sv s, I i, Bv false] [] [(0 : Int) ≤ i ∧ i < (s.size : Int), Con Tryz.prog 98 [.val (.int .u8 (bAt s i.toNat))] true (Bv false) ∧ ((.val (.int .u8 (bAt s i.toNat)) : AV) = .val (.int .u8 (bAt s i.toNat))) ∧ True, (0 : Int) ≤ i ∧ i < (s.size : Int), Con Tryz.prog 99 [.val (.int .u8 (bAt s i.toNat))] true (Bv true) ∧ ((.val (.int .u8 (bAt s i.toNat)) : AV) = .val (.int .u8 (bAt s i.toNat))) ∧ True] (by kernel_rfl) hB ⟨⟨(by omega), (by omega)⟩, ⟨(con_bool h2 (l01Small_ok (bAt s i.toNat))), rfl, trivial⟩, ⟨(by omega), (by omega)⟩, ⟨(con_bool h3 (l01Digit_ok (bAt s i.toNat))), rfl, trivial⟩, trivial⟩ ?_
     refine ae_then ?_
     refine aw_false rfl ?_
     refine aw_skip ?_
     refine ae_block 1 ?_
     refine ae_then ?_
     refine aw_reg [] [0, 3] [] [Sv s, I (i + 1)] [] [inR .i64 (i + 1)] (by kernel_rfl) hB ⟨(inR_i64 (by omega) (by omega)), trivial⟩ ?_
     exact ae_again _ (by omega) ⟨(i + 1), rfl, (by omega), (by intro j hj; by_cases ej : j = i.toNat; (subst ej; simp_all [cellB]); exact hall0 j (by omega)), rfl⟩
    ·by_cases h4 : (bAt s i.toNat) = 32
     ·refine aw_reg [(3, .call [(true, .val (.int .u8 (bAt s i.toNat)))] true (Bv false)), (9, .call [(true, .val (.int .u8 (bAt s i.toNat)))] true (Bv false)), (16, .dec false)] [0, 3, 27] [] [Sv s, I i, Bv false] [] [(0 : Int) ≤ i ∧ i < (s.size : Int), Con Tryz.prog 98 [.val (.int .u8 (bAt s i.toNat))] true (Bv false) ∧ ((.val (.int .u8 (bAt s i.toNat)) : AV) = .val (.int .u8 (bAt s i.toNat))) ∧ True, (0 : Int) ≤ i ∧ i < (s.size : Int), Con Tryz.prog 99 [.val (.int .u8 (bAt s i.toNat))] true (Bv false) ∧ ((.val (.int .u8 (bAt s i.toNat)) : AV) = .val (.int .u8 (bAt s i.toNat))) ∧ True, (0 : Int) ≤ i ∧ i < (s.size : Int), ¬ ((bAt s i.toNat) ≠ 32)] (by kernel_rfl) hB ⟨⟨(by omega), (by omega)⟩, ⟨(con_bool h2 (l01Small_ok (bAt s i.toNat))), rfl, trivial⟩, ⟨(by omega), (by omega)⟩, ⟨(con_bool h3 (l01Digit_ok (bAt s i.toNat))), rfl, trivial⟩, ⟨(by omega), (by omega)⟩, (fun hq => hq h4), trivial⟩ ?_
      refine ae_then ?_
      refine aw_false rfl ?_
      refine aw_skip ?_
      refine ae_block 1 ?_
      refine ae_then ?_
      refine aw_reg [] [0, 3] [] [Sv s, I (i + 1)] [] [inR .i64 (i + 1)] (by kernel_rfl) hB ⟨(inR_i64 (by omega) (by omega)), trivial⟩ ?_
      exact ae_again _ (by omega) ⟨(i + 1), rfl, (by omega), (by intro j hj; by_cases ej : j = i.toNat; (subst ej; simp_all [cellB]); exact hall0 j (by omega)), rfl⟩
     ·refine aw_reg [(3, .call [(true, .val (.int .u8 (bAt s i.toNat)))] true (Bv false)), (9, .call [(true, .val (.int .u8 (bAt s i.toNat)))] true (Bv false)), (16, .dec true)] [0, 3, 27] [] [Sv s, I i, Bv true] [] [(0 : Int) ≤ i ∧ i < (s.size : Int), Con Tryz.prog 98 [.val (.int .u8 (bAt s i.toNat))] true (Bv false) ∧ ((.val (.int .u8 (bAt s i.toNat)) : AV) = .val (.int .u8 (bAt s i.toNat))) ∧ True, (0 : Int) ≤ i ∧ i < (s.size : Int), Con Tryz.prog 99 [.val (.int .u8 (bAt s i.toNat))] true (Bv false) ∧ ((.val (.int .u8 (bAt s i.toNat)) : AV) = .val (.int .u8 (bAt s i.toNat))) ∧ True, (0 : Int) ≤ i ∧ i < (s.size : Int), (bAt s i.toNat) ≠ 32] (by kernel_rfl) hB ⟨⟨(by omega), (by omega)⟩, ⟨(con_bool h2 (l01Small_ok (bAt s i.toNat))), rfl, trivial⟩, ⟨(by omega), (by omega)⟩, ⟨(con_bool h3 (l01Digit_ok (bAt s i.toNat))), rfl, trivial⟩, ⟨(by omega), (by omega)⟩, h4, trivial⟩ ?_
      refine ae_then ?_
      refine aw_true rfl ?_
      refine aw_seq ?_
      refine aw_reg [] [2] [] [Bv false] [] [] (by kernel_rfl) hB trivial ?_
      refine ae_then ?_
      refine aw_ret ?_
      refine ae_ret_block (ae_ret_then (ae_ret_then (ae_ret_block (ae_ret_then ?_))))
      refine ae_ret hB (Bv false) (by kernel_rfl) (.inl (by refine congrArg Bv ?_; first | exact hall.symm | (symm; exact allN_not hi (by simp_all [cellB, inB])))) rfl (fun _ => trivial)
  ·have hall : allN s.size (fun j => cellB (bAt s j)) = true := allN_at (fun j hj => hall0 j (by omega))
   refine aw_reg [(3, .dec false)] [0, 3, 7] [] [Sv s, I i, Bv false] [] [¬ (i < (s.size : Int))] (by kernel_rfl) hB ⟨h1, trivial⟩ ?_
   refine ae_then ?_
   refine aw_false rfl ?_
   refine aw_exit ?_
   refine ae_exit_then ?_
   refine ae_exit_then ?_
   refine ae_exit_same ?_
   refine ae_then ?_
   refine aw_seq ?_
   refine aw_reg [] [2] [] [Bv true] [] [] (by kernel_rfl) hB trivial ?_
   refine ae_then ?_
   refine aw_ret ?_
   refine ae_ret hB (Bv true) (by kernel_rfl) (.inl (by refine congrArg Bv ?_; first | exact hall.symm | (symm; exact allN_not hi (by simp_all [cellB, inB])))) rfl (fun _ => trivial)


-- spec.l23Ok
theorem l23Ok_ok (l : CellRow) (ok : l.Text.size ≤ 9223372036854775807) : Con Tryz.prog 45 [.ptr false [Sv l.Text, I l.X, I l.Y, I l.Cell]] true (Bv (okRow l)) := by
  refine fn_ok (fn := Tryz.f45) (nt := 37) Tryz.func45 rfl rfl rfl rfl (by simp [taggedL, tagged]) fun B hB => ?_
  refine aw_seq ?_
  refine aw_reg [] [0] [] [.ptr false [Sv l.Text, I l.X, I l.Y, I l.Cell]] [] [] (by kernel_rfl) hB trivial ?_
  refine ae_then ?_
  refine aw_seq ?_
  rcases Bool.eq_false_or_eq_true (lettersB l.Text) with h1 | h1
  ·by_cases h2 : (l.Text.size : Int) ≤ 60
   ·rcases Bool.eq_false_or_eq_true (inB l.X 0 4095) with h3 | h3
    ·rcases Bool.eq_false_or_eq_true (inB l.Y 0 4095) with h4 | h4
     ·refine aw_reg [(4, .call [(true, Sv l.Text)] true (Bv true)), (11, .dec true), (18, .call [(true, I l.X), (true, I 0), (true, I 4095)] true (Bv true)), (25, .call [(true, I l.Y), (true, I 0), (true, I 4095)] true (Bv true)), (32, .call [(true, I l.Cell), (true, I 2), (true, I 60)] true (Bv (inB l.Cell 2 60)))] [2] [] [Bv (inB l.Cell 2 60)] [] [Con Tryz.prog 78 [Sv l.Text] true (Bv true) ∧ ((Sv l.Text : AV) = Sv l.Text) ∧ True, (l.Text.size : Int) ≤ 60, Con Tryz.prog 46 [I l.X, I 0, I 4095] true (Bv true) ∧ ((I l.X : AV) = I l.X) ∧ ((I 0 : AV) = I 0) ∧ ((I 4095 : AV) = I 4095) ∧ True, Con Tryz.prog 46 [I l.Y, I 0, I 4095] true (Bv true) ∧ ((I l.Y : AV) = I l.Y) ∧ ((I 0 : AV) = I 0) ∧ ((I 4095 : AV) = I 4095) ∧ True, Con Tryz.prog 46 [I l.Cell, I 2, I 60] true (Bv (inB l.Cell 2 60)) ∧ ((I l.Cell : AV) = I l.Cell) ∧ ((I 2 : AV) = I 2) ∧ ((I 60 : AV) = I 60) ∧ True] (by kernel_rfl) hB ⟨⟨(con_bool h1 (l23Letters_ok l.Text ok)), rfl, trivial⟩, h2, ⟨(con_bool h3 (l00In_ok l.X 0 4095)), rfl, rfl, rfl, trivial⟩, ⟨(con_bool h4 (l00In_ok l.Y 0 4095)), rfl, rfl, rfl, trivial⟩, ⟨(l00In_ok l.Cell 2 60), rfl, rfl, rfl, trivial⟩, trivial⟩ ?_
      refine ae_then ?_
      refine aw_ret ?_
      refine ae_ret hB (Bv (inB l.Cell 2 60)) (by kernel_rfl) (.inl (by first | rfl | (refine congrArg Bv ?_; simp [okRow, inB, *]; done) | (refine congrArg Bv ?_; simp [okRow, inB, *]; omega) | (refine congrArg Bv ?_; simp_all [okRow, inB]; done) | (refine congrArg Bv ?_; simp_all [okRow, inB]; omega))) rfl (fun _ => trivial)
     ·refine aw_reg [(4, .call [(true, Sv l.Text)] true (Bv true)), (11, .dec true), (18, .call [(true, I l.X), (true, I 0), (true, I 4095)] true (Bv true)), (25, .call [(true, I l.Y), (true, I 0), (true, I 4095)] true (Bv false))] [2] [] [Bv false] [] [Con Tryz.prog 78 [Sv l.Text] true (Bv true) ∧ ((Sv l.Text : AV) = Sv l.Text) ∧ True, (l.Text.size : Int) ≤ 60, Con Tryz.prog 46 [I l.X, I 0, I 4095] true (Bv true) ∧ ((I l.X : AV) = I l.X) ∧ ((I 0 : AV) = I 0) ∧ ((I 4095 : AV) = I 4095) ∧ True, Con Tryz.prog 46 [I l.Y, I 0, I 4095] true (Bv false) ∧ ((I l.Y : AV) = I l.Y) ∧ ((I 0 : AV) = I 0) ∧ ((I 4095 : AV) = I 4095) ∧ True] (by kernel_rfl) hB ⟨⟨(con_bool h1 (l23Letters_ok l.Text ok)), rfl, trivial⟩, h2, ⟨(con_bool h3 (l00In_ok l.X 0 4095)), rfl, rfl, rfl, trivial⟩, ⟨(con_bool h4 (l00In_ok l.Y 0 4095)), rfl, rfl, rfl, trivial⟩, trivial⟩ ?_
      refine ae_then ?_
      refine aw_ret ?_
      refine ae_ret hB (Bv false) (by kernel_rfl) (.inl (by first | rfl | (refine congrArg Bv ?_; simp [okRow, inB, *]; done) | (refine congrArg Bv ?_; simp [okRow, inB, *]; omega) | (refine congrArg Bv ?_; simp_all [okRow, inB]; done) | (refine congrArg Bv ?_; simp_all [okRow, inB]; omega))) rfl (fun _ => trivial)
    ·refine aw_reg [(4, .call [(true, Sv l.Text)] true (Bv true)), (11, .dec true), (18, .call [(true, I l.X), (true, I 0), (true, I 4095)] true (Bv false))] [2] [] [Bv false] [] [Con Tryz.prog 78 [Sv l.Text] true (Bv true) ∧ ((Sv l.Text : AV) = Sv l.Text) ∧ True, (l.Text.size : Int) ≤ 60, Con Tryz.prog 46 [I l.X, I 0, I 4095] true (Bv false) ∧ ((I l.X : AV) = I l.X) ∧ ((I 0 : AV) = I 0) ∧ ((I 4095 : AV) = I 4095) ∧ True] (by kernel_rfl) hB ⟨⟨(con_bool h1 (l23Letters_ok l.Text ok)), rfl, trivial⟩, h2, ⟨(con_bool h3 (l00In_ok l.X 0 4095)), rfl, rfl, rfl, trivial⟩, trivial⟩ ?_
     refine ae_then ?_
     refine aw_ret ?_
     refine ae_ret hB (Bv false) (by kernel_rfl) (.inl (by first | rfl | (refine congrArg Bv ?_; simp [okRow, inB, *]; done) | (refine congrArg Bv ?_; simp [okRow, inB, *]; omega) | (refine congrArg Bv ?_; simp_all [okRow, inB]; done) | (refine congrArg Bv ?_; simp_all [okRow, inB]; omega))) rfl (fun _ => trivial)
   ·refine aw_reg [(4, .call [(true, Sv l.Text)] true (Bv true)), (11, .dec false)] [2] [] [Bv false] [] [Con Tryz.prog 78 [Sv l.Text] true (Bv true) ∧ ((Sv l.Text : AV) = Sv l.Text) ∧ True, ¬ ((l.Text.size : Int) ≤ 60)] (by kernel_rfl) hB ⟨⟨(con_bool h1 (l23Letters_ok l.Text ok)), rfl, trivial⟩, h2, trivial⟩ ?_
    refine ae_then ?_
    refine aw_ret ?_
    refine ae_ret hB (Bv false) (by kernel_rfl) (.inl (by first | rfl | (refine congrArg Bv ?_; simp [okRow, inB, *]; done) | (refine congrArg Bv ?_; simp [okRow, inB, *]; omega) | (refine congrArg Bv ?_; simp_all [okRow, inB]; done) | (refine congrArg Bv ?_; simp_all [okRow, inB]; omega))) rfl (fun _ => trivial)
  ·refine aw_reg [(4, .call [(true, Sv l.Text)] true (Bv false))] [2] [] [Bv false] [] [Con Tryz.prog 78 [Sv l.Text] true (Bv false) ∧ ((Sv l.Text : AV) = Sv l.Text) ∧ True] (by kernel_rfl) hB ⟨⟨(con_bool h1 (l23Letters_ok l.Text ok)), rfl, trivial⟩, trivial⟩ ?_
   refine ae_then ?_
   refine aw_ret ?_
   refine ae_ret hB (Bv false) (by kernel_rfl) (.inl (by first | rfl | (refine congrArg Bv ?_; simp [okRow, inB, *]; done) | (refine congrArg Bv ?_; simp [okRow, inB, *]; omega) | (refine congrArg Bv ?_; simp_all [okRow, inB]; done) | (refine congrArg Bv ?_; simp_all [okRow, inB]; omega))) rfl (fun _ => trivial)


-- spec.l05Down
theorem l05Down_ok (n : Int) (d : Int) (hn : (-4611686018427387904 ≤ n ∧ n ≤ 4611686018427387904) ∧ 0 < d) : Con Tryz.prog 47 [I n, I d] true (I (n / d)) := by
  have hq := tdiv_bd n d
  have hs := down_spec n hn.2
  refine fn_ok (fn := Tryz.f47) (nt := 16) Tryz.func47 rfl rfl rfl rfl (by simp [taggedL, tagged]) fun B hB => ?_
  refine aw_seq ?_
  refine aw_reg [] [0, 1] [] [I n, I d] [] [] (by kernel_rfl) hB trivial ?_
  refine ae_then ?_
  refine aw_seq ?_
  refine aw_reg [] [0, 1, 5] [] [I n, I d, I (Int.tdiv n d)] [] [(d : Int) ≠ 0 ∧ inR .i64 (Int.tdiv n d)] (by kernel_rfl) hB ⟨⟨by omega, (inR_i64 (by omega) (by omega))⟩, trivial⟩ ?_
  refine ae_then ?_
  refine aw_seq ?_
  refine aw_seq ?_
  by_cases h1 : (Int.tmod n d) < 0
  ·refine aw_reg [(3, .dec true)] [5, 12] [] [I (Int.tdiv n d), Bv true] [] [(d : Int) ≠ 0, (Int.tmod n d) < 0] (by kernel_rfl) hB ⟨(by omega), h1, trivial⟩ ?_
   refine ae_then ?_
   refine aw_true rfl ?_
   refine aw_reg [] [5] [] [I ((Int.tdiv n d) - 1)] [] [inR .i64 ((Int.tdiv n d) - 1)] (by kernel_rfl) hB ⟨(inR_i64 (by omega) (by omega)), trivial⟩ ?_
   refine ae_then ?_
   refine aw_seq ?_
   refine aw_reg [] [4] [] [I ((Int.tdiv n d) - 1)] [] [] (by kernel_rfl) hB trivial ?_
   refine ae_then ?_
   refine aw_ret ?_
   refine ae_ret hB (I ((Int.tdiv n d) - 1)) (by kernel_rfl) (.inl (by refine congrArg I ?_; first | exact hs.1 (by assumption) | exact hs.2 (by assumption))) rfl (fun _ => trivial)
  ·refine aw_reg [(3, .dec false)] [5, 12] [] [I (Int.tdiv n d), Bv false] [] [(d : Int) ≠ 0, ¬ ((Int.tmod n d) < 0)] (by kernel_rfl) hB ⟨(by omega), h1, trivial⟩ ?_
   refine ae_then ?_
   refine aw_false rfl ?_
   refine aw_skip ?_
   refine ae_then ?_
   refine aw_seq ?_
   refine aw_reg [] [4] [] [I (Int.tdiv n d)] [] [] (by kernel_rfl) hB trivial ?_
   refine ae_then ?_
   refine aw_ret ?_
   refine ae_ret hB (I (Int.tdiv n d)) (by kernel_rfl) (.inl (by refine congrArg I ?_; first | exact hs.1 (by assumption) | exact hs.2 (by assumption))) rfl (fun _ => trivial)


-- spec.CellAt
theorem specCellAt_ok (l : CellRow) (x : Int) (ok : l.Text.size ≤ 9223372036854775807) : Con Tryz.prog 14 [agCellRow l, I x] true (.tup [I ((cellAtR l x).1), I ((cellAtR l x).2)]) := by
  refine fn_ok (fn := Tryz.f14) (nt := 27) Tryz.func14 rfl rfl rfl rfl (by simp [taggedL, tagged]) fun B hB => ?_
  refine aw_seq ?_
  refine aw_reg [(0, .new 2)] [1, 2] [2] [I x, .ref 2 0] [some (bxCellRow l)] [] (by kernel_rfl) hB trivial ?_
  refine ae_then ?_
  refine aw_seq ?_
  refine aw_seq ?_
  rcases Bool.eq_false_or_eq_true (okRow l) with h1 | h1
  ·have hr := okRow_iff.1 h1
   have hcb := cell_bd (c := l.Cell) (n := l.Text.size) (by omega) hr.2.1
   have hci := cell_in (x := x - l.X) (c := l.Cell) (n := l.Text.size) (by omega)
   refine aw_reg [(0, .call [(false, .ptr false [Sv l.Text, I l.X, I l.Y, I l.Cell])] true (Bv true))] [1, 2, 8] [2] [I x, .ref 2 0, Bv false] [some (bxCellRow l)] [Con Tryz.prog 45 [.ptr false [Sv l.Text, I l.X, I l.Y, I l.Cell]] true (Bv true) ∧ ((false = true → true = true) ∧ AV.idsL [Sv l.Text, I l.X, I l.Y, I l.Cell] = [] ∧ (valOf (Sv l.Text) = valOf (Sv l.Text)) ∧ (valOf (I l.X) = valOf (I l.X)) ∧ (valOf (I l.Y) = valOf (I l.Y)) ∧ (valOf (I l.Cell) = valOf (I l.Cell)) ∧ ([] : List AV) = []) ∧ True] (by kernel_rfl) hB ⟨⟨(con_bool h1 (l23Ok_ok l ok)), ⟨(fun h => by cases h), rfl, ⟨rfl, ⟨rfl, ⟨rfl, ⟨rfl, rfl⟩⟩⟩⟩⟩, trivial⟩, trivial⟩ ?_
   refine ae_then ?_
   refine aw_false rfl ?_
   refine aw_skip ?_
   refine ae_then ?_
   refine aw_seq ?_
   refine aw_seq ?_
   rcases Bool.eq_false_or_eq_true (inB x 0 4095) with h2 | h2
   ·have hx := inB_iff.1 h2
    refine aw_reg [(1, .call [(true, I x), (true, I 0), (true, I 4095)] true (Bv true))] [1, 2, 11] [2] [I x, .ref 2 0, Bv false] [some (bxCellRow l)] [Con Tryz.prog 46 [I x, I 0, I 4095] true (Bv true) ∧ ((I x : AV) = I x) ∧ ((I 0 : AV) = I 0) ∧ ((I 4095 : AV) = I 4095) ∧ True] (by kernel_rfl) hB ⟨⟨(con_bool h2 (l00In_ok x 0 4095)), rfl, rfl, rfl, trivial⟩, trivial⟩ ?_
    refine ae_then ?_
    refine aw_false rfl ?_
    refine aw_skip ?_
    refine ae_then ?_
    refine aw_seq ?_
    refine aw_reg [(6, .call [(true, I (x - l.X)), (true, I l.Cell)] true (I ((x - l.X) / l.Cell)))] [2, 6] [2] [.ref 2 0, I ((x - l.X) / l.Cell)] [some (bxCellRow l)] [inR .i64 (x - l.X), Con Tryz.prog 47 [I (x - l.X), I l.Cell] true (I ((x - l.X) / l.Cell)) ∧ ((I (x - l.X) : AV) = I (x - l.X)) ∧ ((I l.Cell : AV) = I l.Cell) ∧ True] (by kernel_rfl) hB ⟨(inR_i64 (by omega) (by omega)), ⟨(l05Down_ok (x - l.X) l.Cell (by omega)), rfl, rfl, trivial⟩, trivial⟩ ?_
    refine ae_then ?_
    refine aw_seq ?_
    refine aw_seq ?_
    rcases Bool.eq_false_or_eq_true (inB ((x - l.X) / l.Cell) 0 ((l.Text.size : Int) - 1)) with h3 | h3
    ·have hph3 := inB_iff.1 h3
     refine aw_reg [(5, .call [(true, I ((x - l.X) / l.Cell)), (true, I 0), (true, I ((l.Text.size : Int) - 1))] true (Bv true))] [6, 25] [] [I ((x - l.X) / l.Cell), Bv false] [] [inR .i64 ((l.Text.size : Int) - 1), Con Tryz.prog 46 [I ((x - l.X) / l.Cell), I 0, I ((l.Text.size : Int) - 1)] true (Bv true) ∧ ((I ((x - l.X) / l.Cell) : AV) = I ((x - l.X) / l.Cell)) ∧ ((I 0 : AV) = I 0) ∧ ((I ((l.Text.size : Int) - 1) : AV) = I ((l.Text.size : Int) - 1)) ∧ True] (by kernel_rfl) hB ⟨(inR_i64 (by omega) (by omega)), ⟨(con_bool h3 (l00In_ok ((x - l.X) / l.Cell) 0 ((l.Text.size : Int) - 1))), rfl, rfl, rfl, trivial⟩, trivial⟩ ?_
     refine ae_then ?_
     refine aw_false rfl ?_
     refine aw_skip ?_
     refine ae_then ?_
     refine aw_seq ?_
     refine aw_reg [] [4, 5] [] [I ((x - l.X) / l.Cell), I 0] [] [] (by kernel_rfl) hB trivial ?_
     refine ae_then ?_
     refine aw_ret ?_
     refine ae_ret hB (.tup [I ((x - l.X) / l.Cell), I 0]) (by kernel_rfl) (.inl (by first | (rw [cellAtR_inv (by assumption)]; done) | (rw [cellAtR_rng (by assumption) (by assumption)]; done) | (rw [cellAtR_no (by assumption) (by assumption) (by omega)]; done) | (rw [cellAtR_yes (by assumption) (by assumption) (by omega)]; done))) rfl (fun _ => (by simp [tagged, taggedL]))
    ·have hnh3 := (not_congr inB_iff).1 (Bool.eq_false_iff.1 h3)
     refine aw_reg [(5, .call [(true, I ((x - l.X) / l.Cell)), (true, I 0), (true, I ((l.Text.size : Int) - 1))] true (Bv false))] [6, 25] [] [I ((x - l.X) / l.Cell), Bv true] [] [inR .i64 ((l.Text.size : Int) - 1), Con Tryz.prog 46 [I ((x - l.X) / l.Cell), I 0, I ((l.Text.size : Int) - 1)] true (Bv false) ∧ ((I ((x - l.X) / l.Cell) : AV) = I ((x - l.X) / l.Cell)) ∧ ((I 0 : AV) = I 0) ∧ ((I ((l.Text.size : Int) - 1) : AV) = I ((l.Text.size : Int) - 1)) ∧ True] (by kernel_rfl) hB ⟨(inR_i64 (by omega) (by omega)), ⟨(con_bool h3 (l00In_ok ((x - l.X) / l.Cell) 0 ((l.Text.size : Int) - 1))), rfl, rfl, rfl, trivial⟩, trivial⟩ ?_
     refine ae_then ?_
     refine aw_true rfl ?_
     refine aw_seq ?_
     refine aw_reg [] [4, 5] [] [I 0, I 3] [] [] (by kernel_rfl) hB trivial ?_
     refine ae_then ?_
     refine aw_ret ?_
     refine ae_ret_then ?_
     refine ae_ret hB (.tup [I 0, I 3]) (by kernel_rfl) (.inl (by first | (rw [cellAtR_inv (by assumption)]; done) | (rw [cellAtR_rng (by assumption) (by assumption)]; done) | (rw [cellAtR_no (by assumption) (by assumption) (by omega)]; done) | (rw [cellAtR_yes (by assumption) (by assumption) (by omega)]; done))) rfl (fun _ => (by simp [tagged, taggedL]))
   ·have hnh2 := (not_congr inB_iff).1 (Bool.eq_false_iff.1 h2)
    refine aw_reg [(1, .call [(true, I x), (true, I 0), (true, I 4095)] true (Bv false))] [1, 2, 11] [2] [I x, .ref 2 0, Bv true] [some (bxCellRow l)] [Con Tryz.prog 46 [I x, I 0, I 4095] true (Bv false) ∧ ((I x : AV) = I x) ∧ ((I 0 : AV) = I 0) ∧ ((I 4095 : AV) = I 4095) ∧ True] (by kernel_rfl) hB ⟨⟨(con_bool h2 (l00In_ok x 0 4095)), rfl, rfl, rfl, trivial⟩, trivial⟩ ?_
    refine ae_then ?_
    refine aw_true rfl ?_
    refine aw_seq ?_
    refine aw_reg [] [4, 5] [] [I 0, I 2] [] [] (by kernel_rfl) hB trivial ?_
    refine ae_then ?_
    refine aw_ret ?_
    refine ae_ret_then ?_
    refine ae_ret hB (.tup [I 0, I 2]) (by kernel_rfl) (.inl (by first | (rw [cellAtR_inv (by assumption)]; done) | (rw [cellAtR_rng (by assumption) (by assumption)]; done) | (rw [cellAtR_no (by assumption) (by assumption) (by omega)]; done) | (rw [cellAtR_yes (by assumption) (by assumption) (by omega)]; done))) rfl (fun _ => (by simp [tagged, taggedL]))
  ·refine aw_reg [(0, .call [(false, .ptr false [Sv l.Text, I l.X, I l.Y, I l.Cell])] true (Bv false))] [1, 2, 8] [2] [I x, .ref 2 0, Bv true] [some (bxCellRow l)] [Con Tryz.prog 45 [.ptr false [Sv l.Text, I l.X, I l.Y, I l.Cell]] true (Bv false) ∧ ((false = true → true = true) ∧ AV.idsL [Sv l.Text, I l.X, I l.Y, I l.Cell] = [] ∧ (valOf (Sv l.Text) = valOf (Sv l.Text)) ∧ (valOf (I l.X) = valOf (I l.X)) ∧ (valOf (I l.Y) = valOf (I l.Y)) ∧ (valOf (I l.Cell) = valOf (I l.Cell)) ∧ ([] : List AV) = []) ∧ True] (by kernel_rfl) hB ⟨⟨(con_bool h1 (l23Ok_ok l ok)), ⟨(fun h => by cases h), rfl, ⟨rfl, ⟨rfl, ⟨rfl, ⟨rfl, rfl⟩⟩⟩⟩⟩, trivial⟩, trivial⟩ ?_
   refine ae_then ?_
   refine aw_true rfl ?_
   refine aw_seq ?_
   refine aw_reg [] [4, 5] [] [I 0, I 1] [] [] (by kernel_rfl) hB trivial ?_
   refine ae_then ?_
   refine aw_ret ?_
   refine ae_ret_then ?_
   refine ae_ret hB (.tup [I 0, I 1]) (by kernel_rfl) (.inl (by first | (rw [cellAtR_inv (by assumption)]; done) | (rw [cellAtR_rng (by assumption) (by assumption)]; done) | (rw [cellAtR_no (by assumption) (by assumption) (by omega)]; done) | (rw [cellAtR_yes (by assumption) (by assumption) (by omega)]; done))) rfl (fun _ => (by simp [tagged, taggedL]))


-- impl.GestureName
theorem implGestureName_ok (gesture : Int) : Con Tryz.prog 15 [I gesture] true (Sv (nameB gesture)) := by
  refine fn_ok (fn := Tryz.f15) (nt := 10) Tryz.func15 rfl rfl rfl rfl (by simp [taggedL, tagged]) fun B hB => ?_
  refine aw_seq ?_
  refine aw_reg [] [0] [] [I gesture] [] [] (by kernel_rfl) hB trivial ?_
  refine ae_then ?_
  refine aw_seq ?_
  refine aw_seq ?_
  rcases Bool.eq_false_or_eq_true (inB gesture 0 5) with h1 | h1
  ·have hg := inB_iff.1 h1
   have hcs : gesture = 0 ∨ gesture = 1 ∨ gesture = 2 ∨ gesture = 3 ∨ gesture = 4 ∨ gesture = 5 := by omega
   clear hg
   rcases hcs with rfl | rfl | rfl | rfl | rfl | rfl
   ·refine aw_reg [(1, .call [(true, I 0), (true, I 0), (true, I 5)] true (Bv true))] [0, 5] [] [I 0, Bv false] [] [Con Tryz.prog 44 [I 0, I 0, I 5] true (Bv true) ∧ ((I 0 : AV) = I 0) ∧ ((I 0 : AV) = I 0) ∧ ((I 5 : AV) = I 5) ∧ True] (by kernel_rfl) hB ⟨⟨(con_bool h1 (within_ok 0 0 5)), rfl, rfl, rfl, trivial⟩, trivial⟩ ?_
    refine ae_then ?_
    refine aw_false rfl ?_
    refine aw_skip ?_
    refine ae_then ?_
    refine aw_seq ?_
    refine aw_reg [(0, .new 6)] [2] [] [Sv (⟨#[110, 111, 110, 101]⟩ : ByteArray)] [] [(0 : Int) ≤ 0 ∧ 0 < (6 : Int), 0 < 6] (by kernel_rfl) hB ⟨⟨(by omega), (by omega)⟩, (by omega), trivial⟩ ?_
    refine ae_then ?_
    refine aw_ret ?_
    refine ae_ret hB (Sv (⟨#[110, 111, 110, 101]⟩ : ByteArray)) (by kernel_rfl) (.inl (by first | rfl | (rw [hno]))) rfl (fun _ => trivial)
   ·refine aw_reg [(1, .call [(true, I 1), (true, I 0), (true, I 5)] true (Bv true))] [0, 5] [] [I 1, Bv false] [] [Con Tryz.prog 44 [I 1, I 0, I 5] true (Bv true) ∧ ((I 1 : AV) = I 1) ∧ ((I 0 : AV) = I 0) ∧ ((I 5 : AV) = I 5) ∧ True] (by kernel_rfl) hB ⟨⟨(con_bool h1 (within_ok 1 0 5)), rfl, rfl, rfl, trivial⟩, trivial⟩ ?_
    refine ae_then ?_
    refine aw_false rfl ?_
    refine aw_skip ?_
    refine ae_then ?_
    refine aw_seq ?_
    refine aw_reg [(0, .new 6)] [2] [] [Sv (⟨#[116, 97, 112]⟩ : ByteArray)] [] [(0 : Int) ≤ 1 ∧ 1 < (6 : Int), 1 < 6] (by kernel_rfl) hB ⟨⟨(by omega), (by omega)⟩, (by omega), trivial⟩ ?_
    refine ae_then ?_
    refine aw_ret ?_
    refine ae_ret hB (Sv (⟨#[116, 97, 112]⟩ : ByteArray)) (by kernel_rfl) (.inl (by first | rfl | (rw [hno]))) rfl (fun _ => trivial)
   ·refine aw_reg [(1, .call [(true, I 2), (true, I 0), (true, I 5)] true (Bv true))] [0, 5] [] [I 2, Bv false] [] [Con Tryz.prog 44 [I 2, I 0, I 5] true (Bv true) ∧ ((I 2 : AV) = I 2) ∧ ((I 0 : AV) = I 0) ∧ ((I 5 : AV) = I 5) ∧ True] (by kernel_rfl) hB ⟨⟨(con_bool h1 (within_ok 2 0 5)), rfl, rfl, rfl, trivial⟩, trivial⟩ ?_
    refine ae_then ?_
    refine aw_false rfl ?_
    refine aw_skip ?_
    refine ae_then ?_
    refine aw_seq ?_
    refine aw_reg [(0, .new 6)] [2] [] [Sv (⟨#[115, 116, 114, 105, 107, 101]⟩ : ByteArray)] [] [(0 : Int) ≤ 2 ∧ 2 < (6 : Int), 2 < 6] (by kernel_rfl) hB ⟨⟨(by omega), (by omega)⟩, (by omega), trivial⟩ ?_
    refine ae_then ?_
    refine aw_ret ?_
    refine ae_ret hB (Sv (⟨#[115, 116, 114, 105, 107, 101]⟩ : ByteArray)) (by kernel_rfl) (.inl (by first | rfl | (rw [hno]))) rfl (fun _ => trivial)
   ·refine aw_reg [(1, .call [(true, I 3), (true, I 0), (true, I 5)] true (Bv true))] [0, 5] [] [I 3, Bv false] [] [Con Tryz.prog 44 [I 3, I 0, I 5] true (Bv true) ∧ ((I 3 : AV) = I 3) ∧ ((I 0 : AV) = I 0) ∧ ((I 5 : AV) = I 5) ∧ True] (by kernel_rfl) hB ⟨⟨(con_bool h1 (within_ok 3 0 5)), rfl, rfl, rfl, trivial⟩, trivial⟩ ?_
    refine ae_then ?_
    refine aw_false rfl ?_
    refine aw_skip ?_
    refine ae_then ?_
    refine aw_seq ?_
    refine aw_reg [(0, .new 6)] [2] [] [Sv (⟨#[99, 105, 114, 99, 108, 101]⟩ : ByteArray)] [] [(0 : Int) ≤ 3 ∧ 3 < (6 : Int), 3 < 6] (by kernel_rfl) hB ⟨⟨(by omega), (by omega)⟩, (by omega), trivial⟩ ?_
    refine ae_then ?_
    refine aw_ret ?_
    refine ae_ret hB (Sv (⟨#[99, 105, 114, 99, 108, 101]⟩ : ByteArray)) (by kernel_rfl) (.inl (by first | rfl | (rw [hno]))) rfl (fun _ => trivial)
   ·refine aw_reg [(1, .call [(true, I 4), (true, I 0), (true, I 5)] true (Bv true))] [0, 5] [] [I 4, Bv false] [] [Con Tryz.prog 44 [I 4, I 0, I 5] true (Bv true) ∧ ((I 4 : AV) = I 4) ∧ ((I 0 : AV) = I 0) ∧ ((I 5 : AV) = I 5) ∧ True] (by kernel_rfl) hB ⟨⟨(con_bool h1 (within_ok 4 0 5)), rfl, rfl, rfl, trivial⟩, trivial⟩ ?_
    refine ae_then ?_
    refine aw_false rfl ?_
    refine aw_skip ?_
    refine ae_then ?_
    refine aw_seq ?_
    refine aw_reg [(0, .new 6)] [2] [] [Sv (⟨#[99, 97, 114, 101, 116]⟩ : ByteArray)] [] [(0 : Int) ≤ 4 ∧ 4 < (6 : Int), 4 < 6] (by kernel_rfl) hB ⟨⟨(by omega), (by omega)⟩, (by omega), trivial⟩ ?_
    refine ae_then ?_
    refine aw_ret ?_
    refine ae_ret hB (Sv (⟨#[99, 97, 114, 101, 116]⟩ : ByteArray)) (by kernel_rfl) (.inl (by first | rfl | (rw [hno]))) rfl (fun _ => trivial)
   ·refine aw_reg [(1, .call [(true, I 5), (true, I 0), (true, I 5)] true (Bv true))] [0, 5] [] [I 5, Bv false] [] [Con Tryz.prog 44 [I 5, I 0, I 5] true (Bv true) ∧ ((I 5 : AV) = I 5) ∧ ((I 0 : AV) = I 0) ∧ ((I 5 : AV) = I 5) ∧ True] (by kernel_rfl) hB ⟨⟨(con_bool h1 (within_ok 5 0 5)), rfl, rfl, rfl, trivial⟩, trivial⟩ ?_
    refine ae_then ?_
    refine aw_false rfl ?_
    refine aw_skip ?_
    refine ae_then ?_
    refine aw_seq ?_
    refine aw_reg [(0, .new 6)] [2] [] [Sv (⟨#[108, 105, 110, 101]⟩ : ByteArray)] [] [(0 : Int) ≤ 5 ∧ 5 < (6 : Int), 5 < 6] (by kernel_rfl) hB ⟨⟨(by omega), (by omega)⟩, (by omega), trivial⟩ ?_
    refine ae_then ?_
    refine aw_ret ?_
    refine ae_ret hB (Sv (⟨#[108, 105, 110, 101]⟩ : ByteArray)) (by kernel_rfl) (.inl (by first | rfl | (rw [hno]))) rfl (fun _ => trivial)
  ·have hno := nameB_no (by simpa using h1)
   refine aw_reg [(1, .call [(true, I gesture), (true, I 0), (true, I 5)] true (Bv false))] [0, 5] [] [I gesture, Bv true] [] [Con Tryz.prog 44 [I gesture, I 0, I 5] true (Bv false) ∧ ((I gesture : AV) = I gesture) ∧ ((I 0 : AV) = I 0) ∧ ((I 5 : AV) = I 5) ∧ True] (by kernel_rfl) hB ⟨⟨(con_bool h1 (within_ok gesture 0 5)), rfl, rfl, rfl, trivial⟩, trivial⟩ ?_
   refine ae_then ?_
   refine aw_true rfl ?_
   refine aw_seq ?_
   refine aw_reg [] [2] [] [Sv (⟨#[]⟩ : ByteArray)] [] [] (by kernel_rfl) hB trivial ?_
   refine ae_then ?_
   refine aw_ret ?_
   refine ae_ret_then ?_
   refine ae_ret hB (Sv (⟨#[]⟩ : ByteArray)) (by kernel_rfl) (.inl (by first | rfl | (rw [hno]))) rfl (fun _ => trivial)


-- spec.GestureName
theorem specGestureName_ok (gesture : Int) : Con Tryz.prog 16 [I gesture] true (Sv (nameB gesture)) := by
  refine fn_ok (fn := Tryz.f16) (nt := 15) Tryz.func16 rfl rfl rfl rfl (by simp [taggedL, tagged]) fun B hB => ?_
  refine aw_seq ?_
  refine aw_reg [] [0] [] [I gesture] [] [] (by kernel_rfl) hB trivial ?_
  refine ae_then ?_
  refine aw_seq ?_
  refine aw_reg [(0, .new 4)] [0, 3] [4] [I gesture, .arr 4] [some (.arr 1 6 (litF [Sv (⟨#[110, 111, 110, 101]⟩ : ByteArray), Sv (⟨#[116, 97, 112]⟩ : ByteArray), Sv (⟨#[115, 116, 114, 105, 107, 101]⟩ : ByteArray), Sv (⟨#[99, 105, 114, 99, 108, 101]⟩ : ByteArray), Sv (⟨#[99, 97, 114, 101, 116]⟩ : ByteArray), Sv (⟨#[108, 105, 110, 101]⟩ : ByteArray)] 1))] [] (by kernel_rfl) hB trivial ?_
  refine ae_then ?_
  refine aw_seq ?_
  refine aw_seq ?_
  rcases Bool.eq_false_or_eq_true (inB gesture 0 ((6 : Int) - 1)) with h1 | h1
  ·have hg := inB_iff.1 h1
   have hcs : gesture = 0 ∨ gesture = 1 ∨ gesture = 2 ∨ gesture = 3 ∨ gesture = 4 ∨ gesture = 5 := by omega
   clear hg
   rcases hcs with rfl | rfl | rfl | rfl | rfl | rfl
   ·refine aw_reg [(4, .call [(true, I 0), (true, I 0), (true, I ((6 : Int) - 1))] true (Bv true))] [0, 3, 10] [4] [I 0, .arr 4, Bv false] [some (.arr 1 6 (litF [Sv (⟨#[110, 111, 110, 101]⟩ : ByteArray), Sv (⟨#[116, 97, 112]⟩ : ByteArray), Sv (⟨#[115, 116, 114, 105, 107, 101]⟩ : ByteArray), Sv (⟨#[99, 105, 114, 99, 108, 101]⟩ : ByteArray), Sv (⟨#[99, 97, 114, 101, 116]⟩ : ByteArray), Sv (⟨#[108, 105, 110, 101]⟩ : ByteArray)] 1))] [inR .i64 ((6 : Int) - 1), Con Tryz.prog 46 [I 0, I 0, I ((6 : Int) - 1)] true (Bv true) ∧ ((I 0 : AV) = I 0) ∧ ((I 0 : AV) = I 0) ∧ ((I ((6 : Int) - 1) : AV) = I ((6 : Int) - 1)) ∧ True] (by kernel_rfl) hB ⟨(inR_i64 (by omega) (by omega)), ⟨(con_bool h1 (l00In_ok 0 0 ((6 : Int) - 1))), rfl, rfl, rfl, trivial⟩, trivial⟩ ?_
    refine ae_then ?_
    refine aw_false rfl ?_
    refine aw_skip ?_
    refine ae_then ?_
    refine aw_seq ?_
    refine aw_reg [] [2] [] [Sv (⟨#[110, 111, 110, 101]⟩ : ByteArray)] [] [(0 : Int) ≤ 0 ∧ 0 < (6 : Int), 0 < 6] (by kernel_rfl) hB ⟨⟨(by omega), (by omega)⟩, (by omega), trivial⟩ ?_
    refine ae_then ?_
    refine aw_ret ?_
    refine ae_ret hB (Sv (⟨#[110, 111, 110, 101]⟩ : ByteArray)) (by kernel_rfl) (.inl (by first | rfl | (rw [hno]))) rfl (fun _ => trivial)
   ·refine aw_reg [(4, .call [(true, I 1), (true, I 0), (true, I ((6 : Int) - 1))] true (Bv true))] [0, 3, 10] [4] [I 1, .arr 4, Bv false] [some (.arr 1 6 (litF [Sv (⟨#[110, 111, 110, 101]⟩ : ByteArray), Sv (⟨#[116, 97, 112]⟩ : ByteArray), Sv (⟨#[115, 116, 114, 105, 107, 101]⟩ : ByteArray), Sv (⟨#[99, 105, 114, 99, 108, 101]⟩ : ByteArray), Sv (⟨#[99, 97, 114, 101, 116]⟩ : ByteArray), Sv (⟨#[108, 105, 110, 101]⟩ : ByteArray)] 1))] [inR .i64 ((6 : Int) - 1), Con Tryz.prog 46 [I 1, I 0, I ((6 : Int) - 1)] true (Bv true) ∧ ((I 1 : AV) = I 1) ∧ ((I 0 : AV) = I 0) ∧ ((I ((6 : Int) - 1) : AV) = I ((6 : Int) - 1)) ∧ True] (by kernel_rfl) hB ⟨(inR_i64 (by omega) (by omega)), ⟨(con_bool h1 (l00In_ok 1 0 ((6 : Int) - 1))), rfl, rfl, rfl, trivial⟩, trivial⟩ ?_
    refine ae_then ?_
    refine aw_false rfl ?_
    refine aw_skip ?_
    refine ae_then ?_
    refine aw_seq ?_
    refine aw_reg [] [2] [] [Sv (⟨#[116, 97, 112]⟩ : ByteArray)] [] [(0 : Int) ≤ 1 ∧ 1 < (6 : Int), 1 < 6] (by kernel_rfl) hB ⟨⟨(by omega), (by omega)⟩, (by omega), trivial⟩ ?_
    refine ae_then ?_
    refine aw_ret ?_
    refine ae_ret hB (Sv (⟨#[116, 97, 112]⟩ : ByteArray)) (by kernel_rfl) (.inl (by first | rfl | (rw [hno]))) rfl (fun _ => trivial)
   ·refine aw_reg [(4, .call [(true, I 2), (true, I 0), (true, I ((6 : Int) - 1))] true (Bv true))] [0, 3, 10] [4] [I 2, .arr 4, Bv false] [some (.arr 1 6 (litF [Sv (⟨#[110, 111, 110, 101]⟩ : ByteArray), Sv (⟨#[116, 97, 112]⟩ : ByteArray), Sv (⟨#[115, 116, 114, 105, 107, 101]⟩ : ByteArray), Sv (⟨#[99, 105, 114, 99, 108, 101]⟩ : ByteArray), Sv (⟨#[99, 97, 114, 101, 116]⟩ : ByteArray), Sv (⟨#[108, 105, 110, 101]⟩ : ByteArray)] 1))] [inR .i64 ((6 : Int) - 1), Con Tryz.prog 46 [I 2, I 0, I ((6 : Int) - 1)] true (Bv true) ∧ ((I 2 : AV) = I 2) ∧ ((I 0 : AV) = I 0) ∧ ((I ((6 : Int) - 1) : AV) = I ((6 : Int) - 1)) ∧ True] (by kernel_rfl) hB ⟨(inR_i64 (by omega) (by omega)), ⟨(con_bool h1 (l00In_ok 2 0 ((6 : Int) - 1))), rfl, rfl, rfl, trivial⟩, trivial⟩ ?_
    refine ae_then ?_
    refine aw_false rfl ?_
    refine aw_skip ?_
    refine ae_then ?_
    refine aw_seq ?_
    refine aw_reg [] [2] [] [Sv (⟨#[115, 116, 114, 105, 107, 101]⟩ : ByteArray)] [] [(0 : Int) ≤ 2 ∧ 2 < (6 : Int), 2 < 6] (by kernel_rfl) hB ⟨⟨(by omega), (by omega)⟩, (by omega), trivial⟩ ?_
    refine ae_then ?_
    refine aw_ret ?_
    refine ae_ret hB (Sv (⟨#[115, 116, 114, 105, 107, 101]⟩ : ByteArray)) (by kernel_rfl) (.inl (by first | rfl | (rw [hno]))) rfl (fun _ => trivial)
   ·refine aw_reg [(4, .call [(true, I 3), (true, I 0), (true, I ((6 : Int) - 1))] true (Bv true))] [0, 3, 10] [4] [I 3, .arr 4, Bv false] [some (.arr 1 6 (litF [Sv (⟨#[110, 111, 110, 101]⟩ : ByteArray), Sv (⟨#[116, 97, 112]⟩ : ByteArray), Sv (⟨#[115, 116, 114, 105, 107, 101]⟩ : ByteArray), Sv (⟨#[99, 105, 114, 99, 108, 101]⟩ : ByteArray), Sv (⟨#[99, 97, 114, 101, 116]⟩ : ByteArray), Sv (⟨#[108, 105, 110, 101]⟩ : ByteArray)] 1))] [inR .i64 ((6 : Int) - 1), Con Tryz.prog 46 [I 3, I 0, I ((6 : Int) - 1)] true (Bv true) ∧ ((I 3 : AV) = I 3) ∧ ((I 0 : AV) = I 0) ∧ ((I ((6 : Int) - 1) : AV) = I ((6 : Int) - 1)) ∧ True] (by kernel_rfl) hB ⟨(inR_i64 (by omega) (by omega)), ⟨(con_bool h1 (l00In_ok 3 0 ((6 : Int) - 1))), rfl, rfl, rfl, trivial⟩, trivial⟩ ?_
    refine ae_then ?_
    refine aw_false rfl ?_
    refine aw_skip ?_
    refine ae_then ?_
    refine aw_seq ?_
    refine aw_reg [] [2] [] [Sv (⟨#[99, 105, 114, 99, 108, 101]⟩ : ByteArray)] [] [(0 : Int) ≤ 3 ∧ 3 < (6 : Int), 3 < 6] (by kernel_rfl) hB ⟨⟨(by omega), (by omega)⟩, (by omega), trivial⟩ ?_
    refine ae_then ?_
    refine aw_ret ?_
    refine ae_ret hB (Sv (⟨#[99, 105, 114, 99, 108, 101]⟩ : ByteArray)) (by kernel_rfl) (.inl (by first | rfl | (rw [hno]))) rfl (fun _ => trivial)
   ·refine aw_reg [(4, .call [(true, I 4), (true, I 0), (true, I ((6 : Int) - 1))] true (Bv true))] [0, 3, 10] [4] [I 4, .arr 4, Bv false] [some (.arr 1 6 (litF [Sv (⟨#[110, 111, 110, 101]⟩ : ByteArray), Sv (⟨#[116, 97, 112]⟩ : ByteArray), Sv (⟨#[115, 116, 114, 105, 107, 101]⟩ : ByteArray), Sv (⟨#[99, 105, 114, 99, 108, 101]⟩ : ByteArray), Sv (⟨#[99, 97, 114, 101, 116]⟩ : ByteArray), Sv (⟨#[108, 105, 110, 101]⟩ : ByteArray)] 1))] [inR .i64 ((6 : Int) - 1), Con Tryz.prog 46 [I 4, I 0, I ((6 : Int) - 1)] true (Bv true) ∧ ((I 4 : AV) = I 4) ∧ ((I 0 : AV) = I 0) ∧ ((I ((6 : Int) - 1) : AV) = I ((6 : Int) - 1)) ∧ True] (by kernel_rfl) hB ⟨(inR_i64 (by omega) (by omega)), ⟨(con_bool h1 (l00In_ok 4 0 ((6 : Int) - 1))), rfl, rfl, rfl, trivial⟩, trivial⟩ ?_
    refine ae_then ?_
    refine aw_false rfl ?_
    refine aw_skip ?_
    refine ae_then ?_
    refine aw_seq ?_
    refine aw_reg [] [2] [] [Sv (⟨#[99, 97, 114, 101, 116]⟩ : ByteArray)] [] [(0 : Int) ≤ 4 ∧ 4 < (6 : Int), 4 < 6] (by kernel_rfl) hB ⟨⟨(by omega), (by omega)⟩, (by omega), trivial⟩ ?_
    refine ae_then ?_
    refine aw_ret ?_
    refine ae_ret hB (Sv (⟨#[99, 97, 114, 101, 116]⟩ : ByteArray)) (by kernel_rfl) (.inl (by first | rfl | (rw [hno]))) rfl (fun _ => trivial)
   ·refine aw_reg [(4, .call [(true, I 5), (true, I 0), (true, I ((6 : Int) - 1))] true (Bv true))] [0, 3, 10] [4] [I 5, .arr 4, Bv false] [some (.arr 1 6 (litF [Sv (⟨#[110, 111, 110, 101]⟩ : ByteArray), Sv (⟨#[116, 97, 112]⟩ : ByteArray), Sv (⟨#[115, 116, 114, 105, 107, 101]⟩ : ByteArray), Sv (⟨#[99, 105, 114, 99, 108, 101]⟩ : ByteArray), Sv (⟨#[99, 97, 114, 101, 116]⟩ : ByteArray), Sv (⟨#[108, 105, 110, 101]⟩ : ByteArray)] 1))] [inR .i64 ((6 : Int) - 1), Con Tryz.prog 46 [I 5, I 0, I ((6 : Int) - 1)] true (Bv true) ∧ ((I 5 : AV) = I 5) ∧ ((I 0 : AV) = I 0) ∧ ((I ((6 : Int) - 1) : AV) = I ((6 : Int) - 1)) ∧ True] (by kernel_rfl) hB ⟨(inR_i64 (by omega) (by omega)), ⟨(con_bool h1 (l00In_ok 5 0 ((6 : Int) - 1))), rfl, rfl, rfl, trivial⟩, trivial⟩ ?_
    refine ae_then ?_
    refine aw_false rfl ?_
    refine aw_skip ?_
    refine ae_then ?_
    refine aw_seq ?_
    refine aw_reg [] [2] [] [Sv (⟨#[108, 105, 110, 101]⟩ : ByteArray)] [] [(0 : Int) ≤ 5 ∧ 5 < (6 : Int), 5 < 6] (by kernel_rfl) hB ⟨⟨(by omega), (by omega)⟩, (by omega), trivial⟩ ?_
    refine ae_then ?_
    refine aw_ret ?_
    refine ae_ret hB (Sv (⟨#[108, 105, 110, 101]⟩ : ByteArray)) (by kernel_rfl) (.inl (by first | rfl | (rw [hno]))) rfl (fun _ => trivial)
  ·have hno := nameB_no (by simpa using h1)
   refine aw_reg [(4, .call [(true, I gesture), (true, I 0), (true, I ((6 : Int) - 1))] true (Bv false))] [0, 3, 10] [4] [I gesture, .arr 4, Bv true] [some (.arr 1 6 (litF [Sv (⟨#[110, 111, 110, 101]⟩ : ByteArray), Sv (⟨#[116, 97, 112]⟩ : ByteArray), Sv (⟨#[115, 116, 114, 105, 107, 101]⟩ : ByteArray), Sv (⟨#[99, 105, 114, 99, 108, 101]⟩ : ByteArray), Sv (⟨#[99, 97, 114, 101, 116]⟩ : ByteArray), Sv (⟨#[108, 105, 110, 101]⟩ : ByteArray)] 1))] [inR .i64 ((6 : Int) - 1), Con Tryz.prog 46 [I gesture, I 0, I ((6 : Int) - 1)] true (Bv false) ∧ ((I gesture : AV) = I gesture) ∧ ((I 0 : AV) = I 0) ∧ ((I ((6 : Int) - 1) : AV) = I ((6 : Int) - 1)) ∧ True] (by kernel_rfl) hB ⟨(inR_i64 (by omega) (by omega)), ⟨(con_bool h1 (l00In_ok gesture 0 ((6 : Int) - 1))), rfl, rfl, rfl, trivial⟩, trivial⟩ ?_
   refine ae_then ?_
   refine aw_true rfl ?_
   refine aw_seq ?_
   refine aw_reg [] [2] [] [Sv (⟨#[]⟩ : ByteArray)] [] [] (by kernel_rfl) hB trivial ?_
   refine ae_then ?_
   refine aw_ret ?_
   refine ae_ret_then ?_
   refine ae_ret hB (Sv (⟨#[]⟩ : ByteArray)) (by kernel_rfl) (.inl (by first | rfl | (rw [hno]))) rfl (fun _ => trivial)


-- spec.ValidCellRow
theorem specValidCellRow_ok (l : CellRow) (ok : l.Text.size ≤ 9223372036854775807) : Con Tryz.prog 18 [agCellRow l] true (Bv (okRow l)) := by
  refine fn_ok (fn := Tryz.f18) (nt := 4) Tryz.func18 rfl rfl rfl rfl (by simp [taggedL, tagged]) fun B hB => ?_
  refine aw_seq ?_
  refine aw_reg [(0, .new 1)] [1] [1] [.ref 1 0] [some (bxCellRow l)] [] (by kernel_rfl) hB trivial ?_
  refine ae_then ?_
  refine aw_seq ?_
  refine aw_reg [(0, .call [(false, .ptr false [Sv l.Text, I l.X, I l.Y, I l.Cell])] true (Bv (okRow l)))] [2] [] [Bv (okRow l)] [] [Con Tryz.prog 45 [.ptr false [Sv l.Text, I l.X, I l.Y, I l.Cell]] true (Bv (okRow l)) ∧ ((false = true → true = true) ∧ AV.idsL [Sv l.Text, I l.X, I l.Y, I l.Cell] = [] ∧ (valOf (Sv l.Text) = valOf (Sv l.Text)) ∧ (valOf (I l.X) = valOf (I l.X)) ∧ (valOf (I l.Y) = valOf (I l.Y)) ∧ (valOf (I l.Cell) = valOf (I l.Cell)) ∧ ([] : List AV) = []) ∧ True] (by kernel_rfl) hB ⟨⟨(l23Ok_ok l ok), ⟨(fun h => by cases h), rfl, ⟨rfl, ⟨rfl, ⟨rfl, ⟨rfl, rfl⟩⟩⟩⟩⟩, trivial⟩, trivial⟩ ?_
  refine ae_then ?_
  refine aw_ret ?_
  refine ae_ret hB (Bv (okRow l)) (by kernel_rfl) (.inl rfl) rfl (fun _ => trivial)


theorem and_16777215 (a : Int) : 0 ≤ bitsI .and .u64 a 16777215 ∧ bitsI .and .u64 a 16777215 ≤ 16777215 := by
  obtain ⟨n, hn⟩ : ∃ n : Nat, n = (BitVec.ofInt 64 a &&& BitVec.ofInt 64 16777215).toNat := ⟨_, rfl⟩
  have h : n ≤ 16777215 := by rw [hn, BitVec.toNat_and]; exact Nat.and_le_right
  have e : bitsI .and .u64 a 16777215 = IntKind.u64.wrap (n : Int) := by rw [hn]; rfl
  have w : IntKind.u64.wrap (n : Int) = n := wrap_in (inR_u64 (by omega) (by omega))
  rw [e, w]; omega
/-- A dice in order. -/
def okDice (d : f6dice) : Prop := (∀ j, j < d.b.length → 0 ≤ at_ d.b j ∧ at_ d.b j ≤ 255) ∧ (0 ≤ d.i ∧ d.i ≤ (d.b.length : Int)) ∧ d.b.length ≤ 4611686018427387904

-- laws.f6roll
theorem f6roll_ok (code : List Int) (seed : Int) (hc : (∀ j, j < code.length → 0 ≤ at_ code j ∧ at_ code j ≤ 255) ∧ code.length ≤ 4611686018427387904) (hsd : 0 ≤ seed ∧ seed ≤ 18446744073709551615) : ∃ (d' : f6dice), (okDice d') ∧ CallOK Tryz.prog 19 [slU8 false code, .val (.int .u64 seed)] (lookO []) false (.ref 7002 0) (lookO [(7002, bxf6dice d')]) := by
  have hh : ∃ r : f6dice, ((okDice r) ∧ (True)) ∧ CallOK Tryz.prog 19 [slU8 false code, .val (.int .u64 seed)] (lookO []) false (.ref 7002 0) (lookO [(7002, bxf6dice r)]) := by
    refine fn_okX (Φ := fun r : f6dice => (okDice r) ∧ (True)) [] (fun r => [(7002, bxf6dice r)]) (fn := Tryz.f19) (nt := 38) Tryz.func19 rfl rfl (args := [slU8 false code, .val (.int .u64 seed)]) rfl (allcons (.inl ⟨rfl, tagU8 false _⟩) (allcons (.inl ⟨rfl, trivial⟩) allnil)) (res := fun r => .ref 7002 0) ?_
    refine x_seq ?_
    refine x_reg [] [0, 1] [] [slU8 false code, .val (.int .u64 seed)] [] [] (by kernel_rfl) trivial ?_
    refine xe_then ?_
    refine x_seq ?_
    refine x_reg [(2, .wrap), (6, .wrap), (8, .new 7002)] [0, 5] [7002] [slU8 false code, .ref 7002 0] [some (.box [slU8 false code, I 0, .val (.int .u64 (IntKind.u64.wrap ((IntKind.u64.wrap (seed * 7919)) + (code.length : Int))))])] [inR .u64 (code.length : Int)] (by kernel_rfl) ⟨(inR_u64 (by omega) (by omega)), trivial⟩ ?_
    refine xe_then ?_
    refine x_seq ?_
    refine x_seq ?_
    refine x_reg [] [0, 5, 6] [7002] [slU8 false code, .ref 7002 0, I 0] [some (.box [slU8 false code, I 0, .val (.int .u64 (IntKind.u64.wrap ((IntKind.u64.wrap (seed * 7919)) + (code.length : Int))))])] [] (by kernel_rfl) trivial ?_
    refine xe_then ?_
    refine x_block ?_
    refine x_weak [] (T := [(0, slU8 false code), (5, .ref 7002 0), (6, I 0)]) (O := [(7002, .box [.sl false 1 ((f6dice.mk code 0 (IntKind.u64.wrap ((IntKind.u64.wrap (seed * 7919)) + (code.length : Int)))).b.length) (fU8 ((f6dice.mk code 0 (IntKind.u64.wrap ((IntKind.u64.wrap (seed * 7919)) + (code.length : Int)))).b)), I ((f6dice.mk code 0 (IntKind.u64.wrap ((IntKind.u64.wrap (seed * 7919)) + (code.length : Int)))).i), .val (.int .u64 ((f6dice.mk code 0 (IntKind.u64.wrap ((IntKind.u64.wrap (seed * 7919)) + (code.length : Int)))).h))])]) rfl (⟨.inl rfl, .inl rfl, .inl rfl, trivial⟩) (⟨.inr ⟨⟨(fun h => by cases h), rfl, (by first | rfl | (simp; done) | (simp; omega) | omega), fun i hi => .inl (by first | rfl | fail)⟩, ⟨(by first | rfl | (simp [valOf]; done) | (simp [valOf]; omega)), ⟨(by first | rfl | (simp [valOf]; done) | (simp [valOf]; omega)), rfl⟩⟩⟩, trivial⟩) ?_
    refine x_loop (X := Int × f6dice) (fun x => mkS [(0, slU8 false code), (5, .ref 7002 0), (6, I x.1)] [(7002, bxf6dice x.2)]) (fun x => (0 ≤ x.1 ∧ x.1 ≤ (code.length : Int)) ∧ (x.2.b = code ∧ x.2.i = 0) ∧ True) (fun x => ((code.length : Int) - x.1).toNat) (0, (f6dice.mk code 0 (IntKind.u64.wrap ((IntKind.u64.wrap (seed * 7919)) + (code.length : Int))))) rfl (show (0 ≤ (0 : Int) ∧ (0 : Int) ≤ (code.length : Int)) ∧ ((f6dice.mk code 0 (IntKind.u64.wrap ((IntKind.u64.wrap (seed * 7919)) + (code.length : Int)))).b = code ∧ (f6dice.mk code 0 (IntKind.u64.wrap ((IntKind.u64.wrap (seed * 7919)) + (code.length : Int)))).i = 0) ∧ True from ⟨(by omega), (by exact ⟨rfl, rfl⟩), trivial⟩) (fun x hI => ?_)
    obtain ⟨i, di⟩ := x
    obtain ⟨hi0, hd0, _⟩ : (0 ≤ i ∧ i ≤ (code.length : Int)) ∧ (di.b = code ∧ di.i = 0) ∧ True := hI
    show XW _ _ _ _ (mkS [(0, slU8 false code), (5, .ref 7002 0), (6, I i)] [(7002, bxf6dice di)]) _ _
    refine x_seq ?_
    refine x_seq ?_
    by_cases h1 : i < (code.length : Int)
    ·have hbt := hc.1 i.toNat (by omega)
     refine x_reg [(3, .dec true)] [0, 5, 6, 19] [7002] [slU8 false code, .ref 7002 0, I i, Bv true] [some (bxf6dice di)] [i < (code.length : Int)] (by kernel_rfl) ⟨h1, trivial⟩ ?_
     refine xe_then ?_
     refine x_true rfl ?_
     refine x_skip ?_
     refine xe_then ?_
     refine x_seq ?_
     refine x_block ?_
     refine x_reg [(5, .wrap), (11, .wrap), (12, .wrap)] [0, 5, 6] [7002] [slU8 false code, .ref 7002 0, I i] [some (.box [slU8 false di.b, I di.i, .val (.int .u64 (IntKind.u64.wrap ((IntKind.u64.wrap ((IntKind.u64.wrap (di.h * 1099511628211)) + (at_ code i.toNat))) + 3)))])] [(0 : Int) ≤ i ∧ i < (code.length : Int), inR .u64 (at_ code i.toNat)] (by kernel_rfl) ⟨⟨(by omega), (by omega)⟩, (inR_u64 (by omega) (by omega)), trivial⟩ ?_
     refine xe_block 1 ?_
     refine xe_then ?_
     refine x_reg [] [0, 5, 6] [7002] [slU8 false code, .ref 7002 0, I (i + 1)] [some (.box [slU8 false di.b, I di.i, .val (.int .u64 (IntKind.u64.wrap ((IntKind.u64.wrap ((IntKind.u64.wrap (di.h * 1099511628211)) + (at_ code i.toNat))) + 3)))])] [inR .i64 (i + 1)] (by kernel_rfl) ⟨(inR_i64 (by omega) (by omega)), trivial⟩ ?_
     refine xe_weak [] (T := [(0, slU8 false code), (5, .ref 7002 0), (6, I (i + 1))]) (O := [(7002, .box [.sl false 1 ((f6dice.mk di.b di.i (IntKind.u64.wrap ((IntKind.u64.wrap ((IntKind.u64.wrap (di.h * 1099511628211)) + (at_ code i.toNat))) + 3))).b.length) (fU8 ((f6dice.mk di.b di.i (IntKind.u64.wrap ((IntKind.u64.wrap ((IntKind.u64.wrap (di.h * 1099511628211)) + (at_ code i.toNat))) + 3))).b)), I ((f6dice.mk di.b di.i (IntKind.u64.wrap ((IntKind.u64.wrap ((IntKind.u64.wrap (di.h * 1099511628211)) + (at_ code i.toNat))) + 3))).i), .val (.int .u64 ((f6dice.mk di.b di.i (IntKind.u64.wrap ((IntKind.u64.wrap ((IntKind.u64.wrap (di.h * 1099511628211)) + (at_ code i.toNat))) + 3))).h))])]) rfl (⟨.inl rfl, .inl rfl, .inl rfl, trivial⟩) (⟨.inr ⟨⟨(fun h => by cases h), rfl, (by first | rfl | (simp; done) | (simp; omega) | omega), fun i hi => .inl (by first | rfl | fail)⟩, ⟨(by first | rfl | (simp [valOf]; done) | (simp [valOf]; omega)), ⟨(by first | rfl | (simp [valOf]; done) | (simp [valOf]; omega)), rfl⟩⟩⟩, trivial⟩) (xe_again ((i + 1), (f6dice.mk di.b di.i (IntKind.u64.wrap ((IntKind.u64.wrap ((IntKind.u64.wrap (di.h * 1099511628211)) + (at_ code i.toNat))) + 3)))) rfl (show (0 ≤ (i + 1) ∧ (i + 1) ≤ (code.length : Int)) ∧ ((f6dice.mk di.b di.i (IntKind.u64.wrap ((IntKind.u64.wrap ((IntKind.u64.wrap (di.h * 1099511628211)) + (at_ code i.toNat))) + 3))).b = code ∧ (f6dice.mk di.b di.i (IntKind.u64.wrap ((IntKind.u64.wrap ((IntKind.u64.wrap (di.h * 1099511628211)) + (at_ code i.toNat))) + 3))).i = 0) ∧ True from ⟨(by omega), (by exact hd0), trivial⟩) (by show (((code.length : Int) - (i + 1)).toNat : Nat) < ((code.length : Int) - i).toNat; omega))
    ·refine x_reg [(3, .dec false)] [0, 5, 6, 19] [7002] [slU8 false code, .ref 7002 0, I i, Bv false] [some (bxf6dice di)] [¬ (i < (code.length : Int))] (by kernel_rfl) ⟨h1, trivial⟩ ?_
     refine xe_then ?_
     refine x_false rfl ?_
     refine x_exit ?_
     refine xe_exit_then ?_
     refine xe_loop_exit ?_
     refine xe_exit_same ?_
     refine xe_then ?_
     refine x_seq ?_
     refine x_reg [] [4] [7002] [.ref 7002 0] [some (bxf6dice di)] [] (by kernel_rfl) trivial ?_
     refine xe_then ?_
     refine x_ret ?_
     refine xe_end di (show (okDice di) ∧ (True) from ⟨(by exact ⟨by rw [hd0.1]; exact hc.1, by rw [hd0.1, hd0.2]; omega, by rw [hd0.1]; exact hc.2⟩), trivial⟩) (⟨.inl rfl, trivial⟩) (.ref 7002 0) (by kernel_rfl) (.inl rfl) (fun h => by cases h) (fun h => by cases h)
  obtain ⟨d', ⟨hh0, _⟩, hc⟩ := hh
  exact ⟨d', hh0, hc⟩

end Go.Proofs.YtebcbkejkpjeoaaGreatDoor.Ax
