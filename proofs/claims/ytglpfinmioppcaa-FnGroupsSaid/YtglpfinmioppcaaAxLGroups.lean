/- The statement FnGroups: contracts of what it reaches, and its proof. No conditions. -/
import Derived.Test.YtglpfinmioppcaaAxLGroups2
import Derived.Test.YtglpfinmioppcaaAxS
import Derived.Test.YtglpfinmioppcaaSortShelf
namespace Go.Proofs.Ytglpfinmioppcaa.Ax
open Go.RowKit Go.ChangeShapes Go.WideShapes
set_option linter.unusedVariables false
set_option linter.unusedSimpArgs false


-- spec.l02Ok
theorem l02Ok_ok (x : Ink) : Con Try.prog 32 [.ptr false [slStroke false x.Strokes]] true (Bv (okInk' x)) := by
  refine fn_ok (fn := Try.f32) (nt := 53) Try.func32 rfl rfl rfl rfl (by simp [taggedL, tagged, tagStroke]) fun B hB => ?_
  refine aw_lens (x := .ptr false [slStroke false x.Strokes]) 0 rfl (fun len_x => ?_)
  simp [LenOK, LenL, cPoint, cStroke, fPoint, fStroke, slPoint, slStroke] at len_x
  refine aw_seq ?_
  refine aw_reg [] [0] [] [.ptr false [slStroke false x.Strokes]] [] [] (by kernel_rfl) hB trivial ?_
  refine ae_then ?_
  refine aw_seq ?_
  refine aw_seq ?_
  refine aw_reg [] [0, 3] [] [.ptr false [slStroke false x.Strokes], I 0] [] [] (by kernel_rfl) hB trivial ?_
  refine ae_then ?_
  refine aw_block ?_
  refine aw_loop (fun gn gσ => ∃ (i : Int), gn = ((x.Strokes.length : Int) - i).toNat ∧ (0 ≤ i ∧ i ≤ (x.Strokes.length : Int)) ∧ (∀ j : Nat, (j : Int) < i → okSA x.Strokes j = true) ∧ gσ = mkS [(0, .ptr false [slStroke false x.Strokes]), (3, I i)] []) (((x.Strokes.length : Int) - 0).toNat) ⟨0, rfl, (by omega), (by intro j hj; omega), rfl⟩ (fun gn gσ hI => ?_)
  obtain ⟨i, rfl, hi0, hall0, rfl⟩ := hI
  refine aw_seq ?_
  refine aw_seq ?_
  by_cases h1 : i < (x.Strokes.length : Int)
  ·have hi : i.toNat < x.Strokes.length := by omega
   refine aw_reg [(6, .dec true)] [0, 3, 10] [] [.ptr false [slStroke false x.Strokes], I i, Bv true] [] [i < (x.Strokes.length : Int)] (by kernel_rfl) hB ⟨h1, trivial⟩ ?_
   refine ae_then ?_
   refine aw_true rfl ?_
   refine aw_skip ?_
   refine ae_then ?_
   refine aw_seq ?_
   refine aw_block ?_
   refine aw_seq ?_
   rcases Bool.eq_false_or_eq_true (okStroke' (at_ x.Strokes i.toNat)) with h2 | h2
   ·have hln := okS_len h2
    by_cases h3 : 0 < i
    ·have hpr := okS_len (okSA_ok (hall0 (i - 1).toNat (by omega)))
     by_cases h4 : ((at_ ((at_ x.Strokes i.toNat).Points) 0).T) ≤ ((at_ (at_ x.Strokes ((i - 1).toNat)).Points ((at_ x.Strokes ((i - 1).toNat)).Points.length - 1)).T)
     ·have hall : allN x.Strokes.length (okSA x.Strokes) = false := allN_not hi (okSA_no h3 h4)
      refine aw_reg [(6, .call [(true, .ptr false [slPoint false ((at_ x.Strokes i.toNat).Points)])] true (Bv true)), (10, .dec true), (30, .call [(true, .ptr false [slPoint false ((at_ x.Strokes ((i - 1).toNat)).Points)])] true (I ((at_ (at_ x.Strokes ((i - 1).toNat)).Points ((at_ x.Strokes ((i - 1).toNat)).Points.length - 1)).T))), (31, .dec true)] [0, 3, 46] [] [.ptr false [slStroke false x.Strokes], I i, Bv true] [] [(0 : Int) ≤ i ∧ i < (x.Strokes.length : Int), Con Try.prog 46 [.ptr false [slPoint false ((at_ x.Strokes i.toNat).Points)]] true (Bv true) ∧ ((.ptr false [slPoint false ((at_ x.Strokes i.toNat).Points)] : AV) = .ptr false [slPoint false ((at_ x.Strokes i.toNat).Points)]) ∧ True, 0 < i, (0 : Int) ≤ i ∧ i < (x.Strokes.length : Int), (0 : Int) ≤ 0 ∧ 0 < ((((at_ x.Strokes i.toNat).Points).length) : Int), inR .i64 (i - 1), (0 : Int) ≤ (i - 1) ∧ (i - 1) < (x.Strokes.length : Int), Con Try.prog 38 [.ptr false [slPoint false ((at_ x.Strokes ((i - 1).toNat)).Points)]] true (I ((at_ (at_ x.Strokes ((i - 1).toNat)).Points ((at_ x.Strokes ((i - 1).toNat)).Points.length - 1)).T)) ∧ ((.ptr false [slPoint false ((at_ x.Strokes ((i - 1).toNat)).Points)] : AV) = .ptr false [slPoint false ((at_ x.Strokes ((i - 1).toNat)).Points)]) ∧ True, ((at_ ((at_ x.Strokes i.toNat).Points) 0).T) ≤ ((at_ (at_ x.Strokes ((i - 1).toNat)).Points ((at_ x.Strokes ((i - 1).toNat)).Points.length - 1)).T)] (by kernel_rfl) hB ⟨⟨(by omega), (by omega)⟩, ⟨(con_bool h2 (l02Stroke_ok (at_ x.Strokes i.toNat))), rfl, trivial⟩, h3, ⟨(by omega), (by omega)⟩, ⟨(by omega), (by omega)⟩, (inR_i64 (by omega) (by omega)), ⟨(by omega), (by omega)⟩, ⟨(l02Last_ok (at_ x.Strokes ((i - 1).toNat)) (by omega)), rfl, trivial⟩, h4, trivial⟩ ?_
      refine ae_then ?_
      refine aw_true rfl ?_
      refine aw_seq ?_
      refine aw_reg [] [2] [] [Bv false] [] [] (by kernel_rfl) hB trivial ?_
      refine ae_then ?_
      refine aw_ret ?_
      refine ae_ret_block (ae_ret_then (ae_ret_then (ae_ret_block (ae_ret_then ?_))))
      refine ae_ret hB (Bv false) (by kernel_rfl) (.inl (by first | rfl | (refine congrArg Bv ?_; simp [okInk', *]; done) | (refine congrArg Bv ?_; simp [okInk', *]; omega) | (refine congrArg Bv ?_; simp_all [okInk']; done) | (refine congrArg Bv ?_; simp_all [okInk']; omega))) rfl (fun _ => trivial)
     ·have hok := okSA_yes h2 h3 h4
      refine aw_reg [(6, .call [(true, .ptr false [slPoint false ((at_ x.Strokes i.toNat).Points)])] true (Bv true)), (10, .dec true), (30, .call [(true, .ptr false [slPoint false ((at_ x.Strokes ((i - 1).toNat)).Points)])] true (I ((at_ (at_ x.Strokes ((i - 1).toNat)).Points ((at_ x.Strokes ((i - 1).toNat)).Points.length - 1)).T))), (31, .dec false)] [0, 3, 46] [] [.ptr false [slStroke false x.Strokes], I i, Bv false] [] [(0 : Int) ≤ i ∧ i < (x.Strokes.length : Int), Con Try.prog 46 [.ptr false [slPoint false ((at_ x.Strokes i.toNat).Points)]] true (Bv true) ∧ ((.ptr false [slPoint false ((at_ x.Strokes i.toNat).Points)] : AV) = .ptr false [slPoint false ((at_ x.Strokes i.toNat).Points)]) ∧ True, 0 < i, (0 : Int) ≤ i ∧ i < (x.Strokes.length : Int), (0 : Int) ≤ 0 ∧ 0 < ((((at_ x.Strokes i.toNat).Points).length) : Int), inR .i64 (i - 1), (0 : Int) ≤ (i - 1) ∧ (i - 1) < (x.Strokes.length : Int), Con Try.prog 38 [.ptr false [slPoint false ((at_ x.Strokes ((i - 1).toNat)).Points)]] true (I ((at_ (at_ x.Strokes ((i - 1).toNat)).Points ((at_ x.Strokes ((i - 1).toNat)).Points.length - 1)).T)) ∧ ((.ptr false [slPoint false ((at_ x.Strokes ((i - 1).toNat)).Points)] : AV) = .ptr false [slPoint false ((at_ x.Strokes ((i - 1).toNat)).Points)]) ∧ True, ¬ (((at_ ((at_ x.Strokes i.toNat).Points) 0).T) ≤ ((at_ (at_ x.Strokes ((i - 1).toNat)).Points ((at_ x.Strokes ((i - 1).toNat)).Points.length - 1)).T))] (by kernel_rfl) hB ⟨⟨(by omega), (by omega)⟩, ⟨(con_bool h2 (l02Stroke_ok (at_ x.Strokes i.toNat))), rfl, trivial⟩, h3, ⟨(by omega), (by omega)⟩, ⟨(by omega), (by omega)⟩, (inR_i64 (by omega) (by omega)), ⟨(by omega), (by omega)⟩, ⟨(l02Last_ok (at_ x.Strokes ((i - 1).toNat)) (by omega)), rfl, trivial⟩, h4, trivial⟩ ?_
      refine ae_then ?_
      refine aw_false rfl ?_
      refine aw_skip ?_
      refine ae_block 1 ?_
      refine ae_then ?_
      refine aw_reg [] [0, 3] [] [.ptr false [slStroke false x.Strokes], I (i + 1)] [] [inR .i64 (i + 1)] (by kernel_rfl) hB ⟨(inR_i64 (by omega) (by omega)), trivial⟩ ?_
      exact ae_again _ (by omega) ⟨(i + 1), rfl, (by omega), (by intro j hj; by_cases ej : j = i.toNat; (subst ej; first | assumption | exact hok); exact hall0 j (by omega)), rfl⟩
    ·have hok := okSA_zero h2 hi0.1 h3
     refine aw_reg [(6, .call [(true, .ptr false [slPoint false ((at_ x.Strokes i.toNat).Points)])] true (Bv true)), (10, .dec false)] [0, 3, 46] [] [.ptr false [slStroke false x.Strokes], I i, Bv false] [] [(0 : Int) ≤ i ∧ i < (x.Strokes.length : Int), Con Try.prog 46 [.ptr false [slPoint false ((at_ x.Strokes i.toNat).Points)]] true (Bv true) ∧ ((.ptr false [slPoint false ((at_ x.Strokes i.toNat).Points)] : AV) = .ptr false [slPoint false ((at_ x.Strokes i.toNat).Points)]) ∧ True, ¬ (0 < i)] (by kernel_rfl) hB ⟨⟨(by omega), (by omega)⟩, ⟨(con_bool h2 (l02Stroke_ok (at_ x.Strokes i.toNat))), rfl, trivial⟩, h3, trivial⟩ ?_
     refine ae_then ?_
     refine aw_false rfl ?_
     refine aw_skip ?_
     refine ae_block 1 ?_
     refine ae_then ?_
     refine aw_reg [] [0, 3] [] [.ptr false [slStroke false x.Strokes], I (i + 1)] [] [inR .i64 (i + 1)] (by kernel_rfl) hB ⟨(inR_i64 (by omega) (by omega)), trivial⟩ ?_
     exact ae_again _ (by omega) ⟨(i + 1), rfl, (by omega), (by intro j hj; by_cases ej : j = i.toNat; (subst ej; first | assumption | exact hok); exact hall0 j (by omega)), rfl⟩
   ·have hall : allN x.Strokes.length (okSA x.Strokes) = false := allN_not hi (okSA_bad (by simpa using h2))
    refine aw_reg [(6, .call [(true, .ptr false [slPoint false ((at_ x.Strokes i.toNat).Points)])] true (Bv false))] [0, 3, 46] [] [.ptr false [slStroke false x.Strokes], I i, Bv true] [] [(0 : Int) ≤ i ∧ i < (x.Strokes.length : Int), Con Try.prog 46 [.ptr false [slPoint false ((at_ x.Strokes i.toNat).Points)]] true (Bv false) ∧ ((.ptr false [slPoint false ((at_ x.Strokes i.toNat).Points)] : AV) = .ptr false [slPoint false ((at_ x.Strokes i.toNat).Points)]) ∧ True] (by kernel_rfl) hB ⟨⟨(by omega), (by omega)⟩, ⟨(con_bool h2 (l02Stroke_ok (at_ x.Strokes i.toNat))), rfl, trivial⟩, trivial⟩ ?_
    refine ae_then ?_
    refine aw_true rfl ?_
    refine aw_seq ?_
    refine aw_reg [] [2] [] [Bv false] [] [] (by kernel_rfl) hB trivial ?_
    refine ae_then ?_
    refine aw_ret ?_
    refine ae_ret_block (ae_ret_then (ae_ret_then (ae_ret_block (ae_ret_then ?_))))
    refine ae_ret hB (Bv false) (by kernel_rfl) (.inl (by first | rfl | (refine congrArg Bv ?_; simp [okInk', *]; done) | (refine congrArg Bv ?_; simp [okInk', *]; omega) | (refine congrArg Bv ?_; simp_all [okInk']; done) | (refine congrArg Bv ?_; simp_all [okInk']; omega))) rfl (fun _ => trivial)
  ·have hall : allN x.Strokes.length (okSA x.Strokes) = true := allN_at (fun j hj => hall0 j (by omega))
   refine aw_reg [(6, .dec false)] [0, 3, 10] [] [.ptr false [slStroke false x.Strokes], I i, Bv false] [] [¬ (i < (x.Strokes.length : Int))] (by kernel_rfl) hB ⟨h1, trivial⟩ ?_
   refine ae_then ?_
   refine aw_false rfl ?_
   refine aw_exit ?_
   refine ae_exit_then ?_
   refine ae_exit_then ?_
   refine ae_exit_same ?_
   refine ae_then ?_
   refine aw_seq ?_
   refine aw_reg [] [2] [] [Bv (decide ((x.Strokes.length : Int) ≤ 16))] [] [] (by kernel_rfl) hB trivial ?_
   refine ae_then ?_
   refine aw_ret ?_
   refine ae_ret hB (Bv (decide ((x.Strokes.length : Int) ≤ 16))) (by kernel_rfl) (.inl (by first | rfl | (refine congrArg Bv ?_; simp [okInk', *]; done) | (refine congrArg Bv ?_; simp [okInk', *]; omega) | (refine congrArg Bv ?_; simp_all [okInk']; done) | (refine congrArg Bv ?_; simp_all [okInk']; omega))) rfl (fun _ => trivial)


-- spec.l02Join
theorem l02Join_ok (a : Box) (b : Box) : Con Try.prog 59 [agBox a, agBox b] true (agBox (joinB a b)) := by
  refine fn_ok (fn := Try.f59) (nt := 26) Try.func59 rfl rfl rfl rfl (by simp [taggedL, tagged]) fun B hB => ?_
  refine aw_seq ?_
  refine aw_reg [(0, .new 2), (1, .new 3), (2, .new 4)] [2, 3, 4] [2, 3, 4] [.ref 2 0, .ref 3 0, .ref 4 0] [some (bxBox a), some (bxBox b), some (.box [I 0, I 0, I 0, I 0])] [] (by kernel_rfl) hB trivial ?_
  refine ae_then ?_
  refine aw_seq ?_
  refine aw_reg [(4, .call [(true, I a.X1), (true, I b.X1)] true (I (min a.X1 b.X1))), (9, .call [(true, I a.Y1), (true, I b.Y1)] true (I (min a.Y1 b.Y1))), (14, .call [(true, I a.X2), (true, I b.X2)] true (I (max a.X2 b.X2))), (19, .call [(true, I a.Y2), (true, I b.Y2)] true (I (max a.Y2 b.Y2)))] [4] [4] [.ref 4 0] [some (.box [I (min a.X1 b.X1), I (min a.Y1 b.Y1), I (max a.X2 b.X2), I (max a.Y2 b.Y2)])] [Con Try.prog 51 [I a.X1, I b.X1] true (I (min a.X1 b.X1)) ∧ ((I a.X1 : AV) = I a.X1) ∧ ((I b.X1 : AV) = I b.X1) ∧ True, Con Try.prog 51 [I a.Y1, I b.Y1] true (I (min a.Y1 b.Y1)) ∧ ((I a.Y1 : AV) = I a.Y1) ∧ ((I b.Y1 : AV) = I b.Y1) ∧ True, Con Try.prog 47 [I a.X2, I b.X2] true (I (max a.X2 b.X2)) ∧ ((I a.X2 : AV) = I a.X2) ∧ ((I b.X2 : AV) = I b.X2) ∧ True, Con Try.prog 47 [I a.Y2, I b.Y2] true (I (max a.Y2 b.Y2)) ∧ ((I a.Y2 : AV) = I a.Y2) ∧ ((I b.Y2 : AV) = I b.Y2) ∧ True] (by kernel_rfl) hB ⟨⟨(l00Min_ok a.X1 b.X1), rfl, rfl, trivial⟩, ⟨(l00Min_ok a.Y1 b.Y1), rfl, rfl, trivial⟩, ⟨(l00Max_ok a.X2 b.X2), rfl, rfl, trivial⟩, ⟨(l00Max_ok a.Y2 b.Y2), rfl, rfl, trivial⟩, trivial⟩ ?_
  refine ae_then ?_
  refine aw_ret ?_
  refine ae_ret hB (.agg [I (min a.X1 b.X1), I (min a.Y1 b.Y1), I (max a.X2 b.X2), I (max a.Y2 b.Y2)]) (by kernel_rfl) (.inl (by first | rfl | (refine congrArg Bv ?_; simp [*]; done) | (refine congrArg Bv ?_; simp [*]; omega) | (refine congrArg Bv ?_; simp_all []; done) | (refine congrArg Bv ?_; simp_all []; omega))) rfl (fun _ => (by simp [tagged, taggedL]))


-- spec.l02BoxOf
theorem l02BoxOf_ok (s : Stroke) (ok : okStroke' s = true) : Con Try.prog 48 [.ptr false [slPoint false s.Points]] true (agBox (boxS s.Points s.Points.length)) := by
  have hln := okS_len ok
  refine fn_ok (fn := Try.f48) (nt := 50) Try.func48 rfl rfl rfl rfl (by simp [taggedL, tagged, tagPoint]) fun B hB => ?_
  refine aw_lens (x := .ptr false [slPoint false s.Points]) 0 rfl (fun len_s => ?_)
  simp [LenOK, LenL, cPoint, fPoint, slPoint] at len_s
  refine aw_seq ?_
  refine aw_reg [(0, .new 2)] [0, 2] [2] [.ptr false [slPoint false s.Points], .ref 2 0] [some (.box [I 0, I 0, I 0, I 0])] [] (by kernel_rfl) hB trivial ?_
  refine ae_then ?_
  refine aw_seq ?_
  refine aw_reg [(6, .new 3)] [0, 2, 3] [2, 3] [.ptr false [slPoint false s.Points], .ref 2 0, .ref 3 0] [some (.box [I 0, I 0, I 0, I 0]), some (bxPoint (at_ s.Points 0))] [(0 : Int) ≤ 0 ∧ 0 < (s.Points.length : Int)] (by kernel_rfl) hB ⟨⟨(by omega), (by omega)⟩, trivial⟩ ?_
  refine ae_then ?_
  refine aw_seq ?_
  refine aw_reg [(9, .new 4)] [0, 2, 4] [2, 4] [.ptr false [slPoint false s.Points], .ref 2 0, .ref 4 0] [some (.box [I 0, I 0, I 0, I 0]), some (.box [I ((at_ s.Points 0).X), I ((at_ s.Points 0).Y), I ((at_ s.Points 0).X), I ((at_ s.Points 0).Y)])] [] (by kernel_rfl) hB trivial ?_
  refine ae_then ?_
  refine aw_seq ?_
  refine aw_seq ?_
  refine aw_reg [] [0, 2, 4, 5] [2, 4] [.ptr false [slPoint false s.Points], .ref 2 0, .ref 4 0, I 1] [some (.box [I 0, I 0, I 0, I 0]), some (.box [I ((at_ s.Points 0).X), I ((at_ s.Points 0).Y), I ((at_ s.Points 0).X), I ((at_ s.Points 0).Y)])] [] (by kernel_rfl) hB trivial ?_
  refine ae_then ?_
  refine aw_block ?_
  refine aw_loop (fun gn gσ => ∃ (i : Int) (x1 : Int) (y1 : Int) (x2 : Int) (y2 : Int), gn = ((s.Points.length : Int) - i).toNat ∧ (1 ≤ i ∧ i ≤ (s.Points.length : Int)) ∧ (Box.mk x1 y1 x2 y2 = boxS s.Points i.toNat) ∧ gσ = mkS [(0, .ptr false [slPoint false s.Points]), (2, .ref 2 0), (4, .ref 4 0), (5, I i)] [(2, .box [I 0, I 0, I 0, I 0]), (4, .box [I x1, I y1, I x2, I y2])]) (((s.Points.length : Int) - 1).toNat) ⟨1, (at_ s.Points 0).X, (at_ s.Points 0).Y, (at_ s.Points 0).X, (at_ s.Points 0).Y, rfl, (by omega), (by first | rfl | exact (boxS_one _).symm), rfl⟩ (fun gn gσ hI => ?_)
  obtain ⟨i, x1, y1, x2, y2, rfl, hi0, hb1, rfl⟩ := hI
  refine aw_seq ?_
  refine aw_seq ?_
  by_cases h1 : i < (s.Points.length : Int)
  ·have hi : i.toNat < s.Points.length := by omega
   refine aw_reg [(6, .dec true)] [0, 2, 4, 5, 28] [2, 4] [.ptr false [slPoint false s.Points], .ref 2 0, .ref 4 0, I i, Bv true] [some (.box [I 0, I 0, I 0, I 0]), some (.box [I x1, I y1, I x2, I y2])] [i < (s.Points.length : Int)] (by kernel_rfl) hB ⟨h1, trivial⟩ ?_
   refine ae_then ?_
   refine aw_true rfl ?_
   refine aw_skip ?_
   refine ae_then ?_
   refine aw_seq ?_
   refine aw_block ?_
   refine aw_seq ?_
   refine aw_reg [(7, .new 6)] [0, 2, 4, 5, 6] [2, 4, 6] [.ptr false [slPoint false s.Points], .ref 2 0, .ref 4 0, I i, .ref 6 0] [some (.box [I 0, I 0, I 0, I 0]), some (.box [I x1, I y1, I x2, I y2]), some (bxPoint (at_ s.Points i.toNat))] [(0 : Int) ≤ i ∧ i < (s.Points.length : Int)] (by kernel_rfl) hB ⟨⟨(by omega), (by omega)⟩, trivial⟩ ?_
   refine ae_then ?_
   refine aw_reg [(10, .call [(true, .agg [I x1, I y1, I x2, I y2]), (true, .agg [I ((at_ s.Points i.toNat).X), I ((at_ s.Points i.toNat).Y), I ((at_ s.Points i.toNat).X), I ((at_ s.Points i.toNat).Y)])] true (agBox (joinB (Box.mk x1 y1 x2 y2) (Box.mk ((at_ s.Points i.toNat).X) ((at_ s.Points i.toNat).Y) ((at_ s.Points i.toNat).X) ((at_ s.Points i.toNat).Y)))))] [0, 2, 4, 5] [2, 4] [.ptr false [slPoint false s.Points], .ref 2 0, .ref 4 0, I i] [some (.box [I 0, I 0, I 0, I 0]), some (bxBox (joinB (Box.mk x1 y1 x2 y2) (Box.mk ((at_ s.Points i.toNat).X) ((at_ s.Points i.toNat).Y) ((at_ s.Points i.toNat).X) ((at_ s.Points i.toNat).Y))))] [Con Try.prog 59 [.agg [I x1, I y1, I x2, I y2], .agg [I ((at_ s.Points i.toNat).X), I ((at_ s.Points i.toNat).Y), I ((at_ s.Points i.toNat).X), I ((at_ s.Points i.toNat).Y)]] true (agBox (joinB (Box.mk x1 y1 x2 y2) (Box.mk ((at_ s.Points i.toNat).X) ((at_ s.Points i.toNat).Y) ((at_ s.Points i.toNat).X) ((at_ s.Points i.toNat).Y)))) ∧ ((.agg [I x1, I y1, I x2, I y2] : AV) = .agg [I x1, I y1, I x2, I y2]) ∧ ((.agg [I ((at_ s.Points i.toNat).X), I ((at_ s.Points i.toNat).Y), I ((at_ s.Points i.toNat).X), I ((at_ s.Points i.toNat).Y)] : AV) = .agg [I ((at_ s.Points i.toNat).X), I ((at_ s.Points i.toNat).Y), I ((at_ s.Points i.toNat).X), I ((at_ s.Points i.toNat).Y)]) ∧ True] (by kernel_rfl) hB ⟨⟨(l02Join_ok (Box.mk x1 y1 x2 y2) (Box.mk ((at_ s.Points i.toNat).X) ((at_ s.Points i.toNat).Y) ((at_ s.Points i.toNat).X) ((at_ s.Points i.toNat).Y))), rfl, rfl, trivial⟩, trivial⟩ ?_
   refine ae_block 1 ?_
   refine ae_then ?_
   refine aw_reg [] [0, 2, 4, 5] [2, 4] [.ptr false [slPoint false s.Points], .ref 2 0, .ref 4 0, I (i + 1)] [some (.box [I 0, I 0, I 0, I 0]), some (bxBox (joinB (Box.mk x1 y1 x2 y2) (Box.mk ((at_ s.Points i.toNat).X) ((at_ s.Points i.toNat).Y) ((at_ s.Points i.toNat).X) ((at_ s.Points i.toNat).Y))))] [inR .i64 (i + 1)] (by kernel_rfl) hB ⟨(inR_i64 (by omega) (by omega)), trivial⟩ ?_
   refine ae_weak hB [] (T := [(0, .ptr false [slPoint false s.Points]), (2, .ref 2 0), (4, .ref 4 0), (5, I (i + 1))]) (O := [(2, .box [I 0, I 0, I 0, I 0]), (4, .box [I ((joinB (Box.mk x1 y1 x2 y2) (Box.mk ((at_ s.Points i.toNat).X) ((at_ s.Points i.toNat).Y) ((at_ s.Points i.toNat).X) ((at_ s.Points i.toNat).Y))).X1), I ((joinB (Box.mk x1 y1 x2 y2) (Box.mk ((at_ s.Points i.toNat).X) ((at_ s.Points i.toNat).Y) ((at_ s.Points i.toNat).X) ((at_ s.Points i.toNat).Y))).Y1), I ((joinB (Box.mk x1 y1 x2 y2) (Box.mk ((at_ s.Points i.toNat).X) ((at_ s.Points i.toNat).Y) ((at_ s.Points i.toNat).X) ((at_ s.Points i.toNat).Y))).X2), I ((joinB (Box.mk x1 y1 x2 y2) (Box.mk ((at_ s.Points i.toNat).X) ((at_ s.Points i.toNat).Y) ((at_ s.Points i.toNat).X) ((at_ s.Points i.toNat).Y))).Y2)])]) rfl (⟨.inl rfl, .inl rfl, .inl rfl, .inl rfl, trivial⟩) (⟨.inl rfl, .inr ⟨rfl, ⟨rfl, ⟨rfl, ⟨rfl, rfl⟩⟩⟩⟩, trivial⟩) (ae_again _ (by omega) ⟨(i + 1), (joinB (Box.mk x1 y1 x2 y2) (Box.mk ((at_ s.Points i.toNat).X) ((at_ s.Points i.toNat).Y) ((at_ s.Points i.toNat).X) ((at_ s.Points i.toNat).Y))).X1, (joinB (Box.mk x1 y1 x2 y2) (Box.mk ((at_ s.Points i.toNat).X) ((at_ s.Points i.toNat).Y) ((at_ s.Points i.toNat).X) ((at_ s.Points i.toNat).Y))).Y1, (joinB (Box.mk x1 y1 x2 y2) (Box.mk ((at_ s.Points i.toNat).X) ((at_ s.Points i.toNat).Y) ((at_ s.Points i.toNat).X) ((at_ s.Points i.toNat).Y))).X2, (joinB (Box.mk x1 y1 x2 y2) (Box.mk ((at_ s.Points i.toNat).X) ((at_ s.Points i.toNat).Y) ((at_ s.Points i.toNat).X) ((at_ s.Points i.toNat).Y))).Y2, rfl, (by omega), (by rw [boxS_succ (by omega), ← hb1]; rfl), rfl⟩)
  ·have hie : i.toNat = s.Points.length := by omega
   rw [hie] at hb1
   refine aw_reg [(6, .dec false)] [0, 2, 4, 5, 28] [2, 4] [.ptr false [slPoint false s.Points], .ref 2 0, .ref 4 0, I i, Bv false] [some (.box [I 0, I 0, I 0, I 0]), some (.box [I x1, I y1, I x2, I y2])] [¬ (i < (s.Points.length : Int))] (by kernel_rfl) hB ⟨h1, trivial⟩ ?_
   refine ae_then ?_
   refine aw_false rfl ?_
   refine aw_exit ?_
   refine ae_exit_then ?_
   refine ae_exit_then ?_
   refine ae_exit_same ?_
   refine ae_then ?_
   refine aw_seq ?_
   refine aw_reg [] [2] [2] [.ref 2 0] [some (.box [I x1, I y1, I x2, I y2])] [] (by kernel_rfl) hB trivial ?_
   refine ae_then ?_
   refine aw_ret ?_
   refine ae_ret hB (.agg [I x1, I y1, I x2, I y2]) (by kernel_rfl) (.inl (by rw [← hb1])) rfl (fun _ => (by simp [tagged, taggedL]))


-- spec.l14Dot
theorem l14Dot_ok (s : Stroke) (ok : okStroke' s = true) : Con Try.prog 60 [.ptr false [slPoint false s.Points]] true (Bv (dotB s)) := by
  have hbo := boxS_all ok
  unfold okBox at hbo
  refine fn_ok (fn := Try.f60) (nt := 20) Try.func60 rfl rfl rfl rfl (by simp [taggedL, tagged, tagPoint]) fun B hB => ?_
  refine aw_lens (x := .ptr false [slPoint false s.Points]) 0 rfl (fun len_s => ?_)
  simp [LenOK, LenL, cPoint, fPoint, slPoint] at len_s
  refine aw_seq ?_
  refine aw_reg [] [0] [] [.ptr false [slPoint false s.Points]] [] [] (by kernel_rfl) hB trivial ?_
  refine ae_then ?_
  refine aw_seq ?_
  refine aw_reg [(1, .call [(true, .ptr false [slPoint false s.Points])] true (agBox (boxS s.Points s.Points.length))), (2, .new 3)] [3] [3] [.ref 3 0] [some (bxBox (boxS s.Points s.Points.length))] [Con Try.prog 48 [.ptr false [slPoint false s.Points]] true (agBox (boxS s.Points s.Points.length)) ∧ ((.ptr false [slPoint false s.Points] : AV) = .ptr false [slPoint false s.Points]) ∧ True] (by kernel_rfl) hB ⟨⟨(l02BoxOf_ok s ok), rfl, trivial⟩, trivial⟩ ?_
  refine ae_then ?_
  refine aw_seq ?_
  by_cases h1 : (((boxS s.Points s.Points.length).X2) - ((boxS s.Points s.Points.length).X1)) ≤ 160
  ·refine aw_reg [(5, .dec true)] [2] [] [Bv (decide ((((boxS s.Points s.Points.length).Y2) - ((boxS s.Points s.Points.length).Y1)) ≤ 160))] [] [inR .i64 (((boxS s.Points s.Points.length).X2) - ((boxS s.Points s.Points.length).X1)), (((boxS s.Points s.Points.length).X2) - ((boxS s.Points s.Points.length).X1)) ≤ 160, inR .i64 (((boxS s.Points s.Points.length).Y2) - ((boxS s.Points s.Points.length).Y1))] (by kernel_rfl) hB ⟨(inR_i64 (by omega) (by omega)), h1, (inR_i64 (by omega) (by omega)), trivial⟩ ?_
   refine ae_then ?_
   refine aw_ret ?_
   refine ae_ret hB (Bv (decide ((((boxS s.Points s.Points.length).Y2) - ((boxS s.Points s.Points.length).Y1)) ≤ 160))) (by kernel_rfl) (.inl (by refine congrArg Bv ?_; first | (simp [dotB, *]; done) | (simp [dotB]; omega))) rfl (fun _ => trivial)
  ·refine aw_reg [(5, .dec false)] [2] [] [Bv false] [] [inR .i64 (((boxS s.Points s.Points.length).X2) - ((boxS s.Points s.Points.length).X1)), ¬ ((((boxS s.Points s.Points.length).X2) - ((boxS s.Points s.Points.length).X1)) ≤ 160)] (by kernel_rfl) hB ⟨(inR_i64 (by omega) (by omega)), h1, trivial⟩ ?_
   refine ae_then ?_
   refine aw_ret ?_
   refine ae_ret hB (Bv false) (by kernel_rfl) (.inl (by refine congrArg Bv ?_; first | (simp [dotB, *]; done) | (simp [dotB]; omega))) rfl (fun _ => trivial)


-- spec.l14Home
theorem l14Home_ok (x : Ink) (stroke : Int) (ok : okInk' x = true) (hs : 0 ≤ stroke ∧ stroke < (x.Strokes.length : Int)) : Con Try.prog 49 [.ptr false [slStroke false x.Strokes], I stroke] true (I (homeI x.Strokes stroke.toNat)) := by
  have hio : stroke.toNat < x.Strokes.length := by omega
  have hod := okI_all ok _ hio
  have hbd := boxS_all hod
  unfold okBox at hbd
  refine fn_ok (fn := Try.f49) (nt := 69) Try.func49 rfl rfl rfl rfl (by simp [taggedL, tagged, tagStroke]) fun B hB => ?_
  refine aw_lens (x := .ptr false [slStroke false x.Strokes]) 0 rfl (fun len_x => ?_)
  simp [LenOK, LenL, cPoint, cStroke, fPoint, fStroke, slPoint, slStroke] at len_x
  refine aw_seq ?_
  refine aw_reg [] [0, 1] [] [.ptr false [slStroke false x.Strokes], I stroke] [] [] (by kernel_rfl) hB trivial ?_
  refine ae_then ?_
  refine aw_seq ?_
  refine aw_seq ?_
  rcases Bool.eq_false_or_eq_true (dotB (at_ x.Strokes stroke.toNat)) with h1 | h1
  ·refine aw_reg [(6, .call [(true, .ptr false [slPoint false ((at_ x.Strokes stroke.toNat).Points)])] true (Bv true))] [0, 1, 18] [] [.ptr false [slStroke false x.Strokes], I stroke, Bv false] [] [(0 : Int) ≤ stroke ∧ stroke < (x.Strokes.length : Int), Con Try.prog 60 [.ptr false [slPoint false ((at_ x.Strokes stroke.toNat).Points)]] true (Bv true) ∧ ((.ptr false [slPoint false ((at_ x.Strokes stroke.toNat).Points)] : AV) = .ptr false [slPoint false ((at_ x.Strokes stroke.toNat).Points)]) ∧ True] (by kernel_rfl) hB ⟨⟨(by omega), (by omega)⟩, ⟨(con_bool h1 (l14Dot_ok (at_ x.Strokes stroke.toNat) (by first | assumption | exact okI_all ok _ (by omega)))), rfl, trivial⟩, trivial⟩ ?_
   refine ae_then ?_
   refine aw_false rfl ?_
   refine aw_skip ?_
   refine ae_then ?_
   refine aw_seq ?_
   refine aw_reg [(6, .call [(true, .ptr false [slPoint false ((at_ x.Strokes stroke.toNat).Points)])] true (agBox (boxS (at_ x.Strokes stroke.toNat).Points (at_ x.Strokes stroke.toNat).Points.length))), (7, .new 5)] [0, 1, 5] [5] [.ptr false [slStroke false x.Strokes], I stroke, .ref 5 0] [some (bxBox (boxS (at_ x.Strokes stroke.toNat).Points (at_ x.Strokes stroke.toNat).Points.length))] [(0 : Int) ≤ stroke ∧ stroke < (x.Strokes.length : Int), Con Try.prog 48 [.ptr false [slPoint false ((at_ x.Strokes stroke.toNat).Points)]] true (agBox (boxS (at_ x.Strokes stroke.toNat).Points (at_ x.Strokes stroke.toNat).Points.length)) ∧ ((.ptr false [slPoint false ((at_ x.Strokes stroke.toNat).Points)] : AV) = .ptr false [slPoint false ((at_ x.Strokes stroke.toNat).Points)]) ∧ True] (by kernel_rfl) hB ⟨⟨(by omega), (by omega)⟩, ⟨(l02BoxOf_ok (at_ x.Strokes stroke.toNat) (by first | assumption | exact okI_all ok _ (by omega))), rfl, trivial⟩, trivial⟩ ?_
   refine ae_then ?_
   refine aw_seq ?_
   refine aw_reg [] [0, 1, 5, 6] [5] [.ptr false [slStroke false x.Strokes], I stroke, .ref 5 0, I (-1)] [some (bxBox (boxS (at_ x.Strokes stroke.toNat).Points (at_ x.Strokes stroke.toNat).Points.length))] [] (by kernel_rfl) hB trivial ?_
   refine ae_then ?_
   refine aw_seq ?_
   refine aw_reg [] [0, 1, 5, 6, 7] [5] [.ptr false [slStroke false x.Strokes], I stroke, .ref 5 0, I (-1), I 0] [some (bxBox (boxS (at_ x.Strokes stroke.toNat).Points (at_ x.Strokes stroke.toNat).Points.length))] [] (by kernel_rfl) hB trivial ?_
   refine ae_then ?_
   refine aw_seq ?_
   refine aw_seq ?_
   refine aw_reg [] [0, 1, 5, 6, 7, 8] [5] [.ptr false [slStroke false x.Strokes], I stroke, .ref 5 0, I (-1), I 0, I 0] [some (bxBox (boxS (at_ x.Strokes stroke.toNat).Points (at_ x.Strokes stroke.toNat).Points.length))] [] (by kernel_rfl) hB trivial ?_
   refine ae_then ?_
   refine aw_block ?_
   refine aw_loop (fun gn gσ => ∃ (home : Int) (most : Int) (k : Int), gn = (stroke - k).toNat ∧ (0 ≤ k ∧ k ≤ stroke) ∧ (home = (homeG x.Strokes (boxS (at_ x.Strokes stroke.toNat).Points (at_ x.Strokes stroke.toNat).Points.length) k.toNat).1 ∧ (home = -1 → most = 0) ∧ (¬ home = -1 → most = (homeG x.Strokes (boxS (at_ x.Strokes stroke.toNat).Points (at_ x.Strokes stroke.toNat).Points.length) k.toNat).2)) ∧ gσ = mkS [(0, .ptr false [slStroke false x.Strokes]), (1, I stroke), (5, .ref 5 0), (6, I home), (7, I most), (8, I k)] [(5, bxBox (boxS (at_ x.Strokes stroke.toNat).Points (at_ x.Strokes stroke.toNat).Points.length))]) ((stroke - 0).toNat) ⟨(-1), 0, 0, rfl, (by omega), (by exact ⟨rfl, fun _ => rfl, fun q => absurd rfl q⟩), rfl⟩ (fun gn gσ hI => ?_)
   obtain ⟨home, most, k, rfl, hi0, hg0, rfl⟩ := hI
   refine aw_seq ?_
   refine aw_seq ?_
   by_cases h2 : k < stroke
   ·have hi : k.toNat < x.Strokes.length := by omega
    have hos := okI_all ok _ hi
    have hbo := boxS_all hos
    unfold okBox at hbo
    have hcm : comI (at_ x.Strokes k.toNat) (boxS (at_ x.Strokes stroke.toNat).Points (at_ x.Strokes stroke.toNat).Points.length) = comI (at_ x.Strokes k.toNat) (boxS (at_ x.Strokes stroke.toNat).Points (at_ x.Strokes stroke.toNat).Points.length) := rfl
    have hgb := homeG_bd x.Strokes (boxS (at_ x.Strokes stroke.toNat).Points (at_ x.Strokes stroke.toNat).Points.length) k.toNat
    refine aw_reg [(2, .dec true)] [0, 1, 5, 6, 7, 8, 28] [5] [.ptr false [slStroke false x.Strokes], I stroke, .ref 5 0, I home, I most, I k, Bv true] [some (bxBox (boxS (at_ x.Strokes stroke.toNat).Points (at_ x.Strokes stroke.toNat).Points.length))] [k < stroke] (by kernel_rfl) hB ⟨h2, trivial⟩ ?_
    refine ae_then ?_
    refine aw_true rfl ?_
    refine aw_skip ?_
    refine ae_then ?_
    refine aw_seq ?_
    refine aw_block ?_
    refine aw_seq ?_
    refine aw_seq ?_
    rcases Bool.eq_false_or_eq_true (dotB (at_ x.Strokes k.toNat)) with h3 | h3
    ·have hgn := homeG_no (ss := x.Strokes) (d := (boxS (at_ x.Strokes stroke.toNat).Points (at_ x.Strokes stroke.toNat).Points.length)) hi0.1 (fun q => by have q1 := q.1; rw [h3] at q1; cases q1)
     refine aw_reg [(6, .call [(true, .ptr false [slPoint false ((at_ x.Strokes k.toNat).Points)])] true (Bv true))] [0, 1, 5, 6, 7, 8, 37] [5] [.ptr false [slStroke false x.Strokes], I stroke, .ref 5 0, I home, I most, I k, Bv true] [some (bxBox (boxS (at_ x.Strokes stroke.toNat).Points (at_ x.Strokes stroke.toNat).Points.length))] [(0 : Int) ≤ k ∧ k < (x.Strokes.length : Int), Con Try.prog 60 [.ptr false [slPoint false ((at_ x.Strokes k.toNat).Points)]] true (Bv true) ∧ ((.ptr false [slPoint false ((at_ x.Strokes k.toNat).Points)] : AV) = .ptr false [slPoint false ((at_ x.Strokes k.toNat).Points)]) ∧ True] (by kernel_rfl) hB ⟨⟨(by omega), (by omega)⟩, ⟨(con_bool h3 (l14Dot_ok (at_ x.Strokes k.toNat) (by first | assumption | exact okI_all ok _ (by omega)))), rfl, trivial⟩, trivial⟩ ?_
     refine ae_then ?_
     refine aw_true rfl ?_
     refine aw_exit ?_
     refine ae_exit_then ?_
     refine ae_exit_same ?_
     refine ae_then ?_
     refine aw_reg [] [0, 1, 5, 6, 7, 8] [5] [.ptr false [slStroke false x.Strokes], I stroke, .ref 5 0, I home, I most, I (k + 1)] [some (bxBox (boxS (at_ x.Strokes stroke.toNat).Points (at_ x.Strokes stroke.toNat).Points.length))] [inR .i64 (k + 1)] (by kernel_rfl) hB ⟨(inR_i64 (by omega) (by omega)), trivial⟩ ?_
     exact ae_again _ (by omega) ⟨home, most, (k + 1), rfl, (by omega), (by rw [hgn]; first | exact hg0 | exact ⟨rfl, fun q => by omega, fun _ => by unfold comI; omega⟩), rfl⟩
    ·refine aw_reg [(6, .call [(true, .ptr false [slPoint false ((at_ x.Strokes k.toNat).Points)])] true (Bv false))] [0, 1, 5, 6, 7, 8, 37] [5] [.ptr false [slStroke false x.Strokes], I stroke, .ref 5 0, I home, I most, I k, Bv false] [some (bxBox (boxS (at_ x.Strokes stroke.toNat).Points (at_ x.Strokes stroke.toNat).Points.length))] [(0 : Int) ≤ k ∧ k < (x.Strokes.length : Int), Con Try.prog 60 [.ptr false [slPoint false ((at_ x.Strokes k.toNat).Points)]] true (Bv false) ∧ ((.ptr false [slPoint false ((at_ x.Strokes k.toNat).Points)] : AV) = .ptr false [slPoint false ((at_ x.Strokes k.toNat).Points)]) ∧ True] (by kernel_rfl) hB ⟨⟨(by omega), (by omega)⟩, ⟨(con_bool h3 (l14Dot_ok (at_ x.Strokes k.toNat) (by first | assumption | exact okI_all ok _ (by omega)))), rfl, trivial⟩, trivial⟩ ?_
     refine ae_then ?_
     refine aw_false rfl ?_
     refine aw_skip ?_
     refine ae_then ?_
     refine aw_seq ?_
     refine aw_reg [(6, .call [(true, .ptr false [slPoint false ((at_ x.Strokes k.toNat).Points)])] true (agBox (boxS (at_ x.Strokes k.toNat).Points (at_ x.Strokes k.toNat).Points.length))), (7, .new 9)] [0, 1, 5, 6, 7, 8, 9] [5, 9] [.ptr false [slStroke false x.Strokes], I stroke, .ref 5 0, I home, I most, I k, .ref 9 0] [some (bxBox (boxS (at_ x.Strokes stroke.toNat).Points (at_ x.Strokes stroke.toNat).Points.length)), some (bxBox (boxS (at_ x.Strokes k.toNat).Points (at_ x.Strokes k.toNat).Points.length))] [(0 : Int) ≤ k ∧ k < (x.Strokes.length : Int), Con Try.prog 48 [.ptr false [slPoint false ((at_ x.Strokes k.toNat).Points)]] true (agBox (boxS (at_ x.Strokes k.toNat).Points (at_ x.Strokes k.toNat).Points.length)) ∧ ((.ptr false [slPoint false ((at_ x.Strokes k.toNat).Points)] : AV) = .ptr false [slPoint false ((at_ x.Strokes k.toNat).Points)]) ∧ True] (by kernel_rfl) hB ⟨⟨(by omega), (by omega)⟩, ⟨(l02BoxOf_ok (at_ x.Strokes k.toNat) (by first | assumption | exact okI_all ok _ (by omega))), rfl, trivial⟩, trivial⟩ ?_
     refine ae_then ?_
     refine aw_seq ?_
     refine aw_reg [(5, .call [(true, I (((boxS (at_ x.Strokes stroke.toNat).Points (at_ x.Strokes stroke.toNat).Points.length).X2) + 40)), (true, I ((boxS (at_ x.Strokes k.toNat).Points (at_ x.Strokes k.toNat).Points.length).X2))] true (I (min (((boxS (at_ x.Strokes stroke.toNat).Points (at_ x.Strokes stroke.toNat).Points.length).X2) + 40) ((boxS (at_ x.Strokes k.toNat).Points (at_ x.Strokes k.toNat).Points.length).X2)))), (11, .call [(true, I (((boxS (at_ x.Strokes stroke.toNat).Points (at_ x.Strokes stroke.toNat).Points.length).X1) - 40)), (true, I ((boxS (at_ x.Strokes k.toNat).Points (at_ x.Strokes k.toNat).Points.length).X1))] true (I (max (((boxS (at_ x.Strokes stroke.toNat).Points (at_ x.Strokes stroke.toNat).Points.length).X1) - 40) ((boxS (at_ x.Strokes k.toNat).Points (at_ x.Strokes k.toNat).Points.length).X1))))] [0, 1, 5, 6, 7, 8, 10] [5] [.ptr false [slStroke false x.Strokes], I stroke, .ref 5 0, I home, I most, I k, I (((min (((boxS (at_ x.Strokes stroke.toNat).Points (at_ x.Strokes stroke.toNat).Points.length).X2) + 40) ((boxS (at_ x.Strokes k.toNat).Points (at_ x.Strokes k.toNat).Points.length).X2)) - (max (((boxS (at_ x.Strokes stroke.toNat).Points (at_ x.Strokes stroke.toNat).Points.length).X1) - 40) ((boxS (at_ x.Strokes k.toNat).Points (at_ x.Strokes k.toNat).Points.length).X1))) + 1)] [some (bxBox (boxS (at_ x.Strokes stroke.toNat).Points (at_ x.Strokes stroke.toNat).Points.length))] [inR .i64 (((boxS (at_ x.Strokes stroke.toNat).Points (at_ x.Strokes stroke.toNat).Points.length).X2) + 40), Con Try.prog 51 [I (((boxS (at_ x.Strokes stroke.toNat).Points (at_ x.Strokes stroke.toNat).Points.length).X2) + 40), I ((boxS (at_ x.Strokes k.toNat).Points (at_ x.Strokes k.toNat).Points.length).X2)] true (I (min (((boxS (at_ x.Strokes stroke.toNat).Points (at_ x.Strokes stroke.toNat).Points.length).X2) + 40) ((boxS (at_ x.Strokes k.toNat).Points (at_ x.Strokes k.toNat).Points.length).X2))) ∧ ((I (((boxS (at_ x.Strokes stroke.toNat).Points (at_ x.Strokes stroke.toNat).Points.length).X2) + 40) : AV) = I (((boxS (at_ x.Strokes stroke.toNat).Points (at_ x.Strokes stroke.toNat).Points.length).X2) + 40)) ∧ ((I ((boxS (at_ x.Strokes k.toNat).Points (at_ x.Strokes k.toNat).Points.length).X2) : AV) = I ((boxS (at_ x.Strokes k.toNat).Points (at_ x.Strokes k.toNat).Points.length).X2)) ∧ True, inR .i64 (((boxS (at_ x.Strokes stroke.toNat).Points (at_ x.Strokes stroke.toNat).Points.length).X1) - 40), Con Try.prog 47 [I (((boxS (at_ x.Strokes stroke.toNat).Points (at_ x.Strokes stroke.toNat).Points.length).X1) - 40), I ((boxS (at_ x.Strokes k.toNat).Points (at_ x.Strokes k.toNat).Points.length).X1)] true (I (max (((boxS (at_ x.Strokes stroke.toNat).Points (at_ x.Strokes stroke.toNat).Points.length).X1) - 40) ((boxS (at_ x.Strokes k.toNat).Points (at_ x.Strokes k.toNat).Points.length).X1))) ∧ ((I (((boxS (at_ x.Strokes stroke.toNat).Points (at_ x.Strokes stroke.toNat).Points.length).X1) - 40) : AV) = I (((boxS (at_ x.Strokes stroke.toNat).Points (at_ x.Strokes stroke.toNat).Points.length).X1) - 40)) ∧ ((I ((boxS (at_ x.Strokes k.toNat).Points (at_ x.Strokes k.toNat).Points.length).X1) : AV) = I ((boxS (at_ x.Strokes k.toNat).Points (at_ x.Strokes k.toNat).Points.length).X1)) ∧ True, inR .i64 ((min (((boxS (at_ x.Strokes stroke.toNat).Points (at_ x.Strokes stroke.toNat).Points.length).X2) + 40) ((boxS (at_ x.Strokes k.toNat).Points (at_ x.Strokes k.toNat).Points.length).X2)) - (max (((boxS (at_ x.Strokes stroke.toNat).Points (at_ x.Strokes stroke.toNat).Points.length).X1) - 40) ((boxS (at_ x.Strokes k.toNat).Points (at_ x.Strokes k.toNat).Points.length).X1))), inR .i64 (((min (((boxS (at_ x.Strokes stroke.toNat).Points (at_ x.Strokes stroke.toNat).Points.length).X2) + 40) ((boxS (at_ x.Strokes k.toNat).Points (at_ x.Strokes k.toNat).Points.length).X2)) - (max (((boxS (at_ x.Strokes stroke.toNat).Points (at_ x.Strokes stroke.toNat).Points.length).X1) - 40) ((boxS (at_ x.Strokes k.toNat).Points (at_ x.Strokes k.toNat).Points.length).X1))) + 1)] (by kernel_rfl) hB ⟨(inR_i64 (by omega) (by omega)), ⟨(l00Min_ok (((boxS (at_ x.Strokes stroke.toNat).Points (at_ x.Strokes stroke.toNat).Points.length).X2) + 40) ((boxS (at_ x.Strokes k.toNat).Points (at_ x.Strokes k.toNat).Points.length).X2)), rfl, rfl, trivial⟩, (inR_i64 (by omega) (by omega)), ⟨(l00Max_ok (((boxS (at_ x.Strokes stroke.toNat).Points (at_ x.Strokes stroke.toNat).Points.length).X1) - 40) ((boxS (at_ x.Strokes k.toNat).Points (at_ x.Strokes k.toNat).Points.length).X1)), rfl, rfl, trivial⟩, (inR_i64 (by omega) (by omega)), (inR_i64 (by omega) (by omega)), trivial⟩ ?_
     refine ae_then ?_
     refine aw_seq ?_
     by_cases h4 : 0 < (((min (((boxS (at_ x.Strokes stroke.toNat).Points (at_ x.Strokes stroke.toNat).Points.length).X2) + 40) ((boxS (at_ x.Strokes k.toNat).Points (at_ x.Strokes k.toNat).Points.length).X2)) - (max (((boxS (at_ x.Strokes stroke.toNat).Points (at_ x.Strokes stroke.toNat).Points.length).X1) - 40) ((boxS (at_ x.Strokes k.toNat).Points (at_ x.Strokes k.toNat).Points.length).X1))) + 1)
     ·by_cases h5 : most ≤ (((min (((boxS (at_ x.Strokes stroke.toNat).Points (at_ x.Strokes stroke.toNat).Points.length).X2) + 40) ((boxS (at_ x.Strokes k.toNat).Points (at_ x.Strokes k.toNat).Points.length).X2)) - (max (((boxS (at_ x.Strokes stroke.toNat).Points (at_ x.Strokes stroke.toNat).Points.length).X1) - 40) ((boxS (at_ x.Strokes k.toNat).Points (at_ x.Strokes k.toNat).Points.length).X1))) + 1)
      ·have hgn := homeG_yes (ss := x.Strokes) (d := (boxS (at_ x.Strokes stroke.toNat).Points (at_ x.Strokes stroke.toNat).Points.length)) hi0.1 h3 (by unfold comI; omega)
       refine aw_reg [(1, .dec true), (5, .dec true)] [0, 1, 5, 6, 7, 8, 10, 65] [5] [.ptr false [slStroke false x.Strokes], I stroke, .ref 5 0, I home, I most, I k, I (((min (((boxS (at_ x.Strokes stroke.toNat).Points (at_ x.Strokes stroke.toNat).Points.length).X2) + 40) ((boxS (at_ x.Strokes k.toNat).Points (at_ x.Strokes k.toNat).Points.length).X2)) - (max (((boxS (at_ x.Strokes stroke.toNat).Points (at_ x.Strokes stroke.toNat).Points.length).X1) - 40) ((boxS (at_ x.Strokes k.toNat).Points (at_ x.Strokes k.toNat).Points.length).X1))) + 1), Bv true] [some (bxBox (boxS (at_ x.Strokes stroke.toNat).Points (at_ x.Strokes stroke.toNat).Points.length))] [0 < (((min (((boxS (at_ x.Strokes stroke.toNat).Points (at_ x.Strokes stroke.toNat).Points.length).X2) + 40) ((boxS (at_ x.Strokes k.toNat).Points (at_ x.Strokes k.toNat).Points.length).X2)) - (max (((boxS (at_ x.Strokes stroke.toNat).Points (at_ x.Strokes stroke.toNat).Points.length).X1) - 40) ((boxS (at_ x.Strokes k.toNat).Points (at_ x.Strokes k.toNat).Points.length).X1))) + 1), most ≤ (((min (((boxS (at_ x.Strokes stroke.toNat).Points (at_ x.Strokes stroke.toNat).Points.length).X2) + 40) ((boxS (at_ x.Strokes k.toNat).Points (at_ x.Strokes k.toNat).Points.length).X2)) - (max (((boxS (at_ x.Strokes stroke.toNat).Points (at_ x.Strokes stroke.toNat).Points.length).X1) - 40) ((boxS (at_ x.Strokes k.toNat).Points (at_ x.Strokes k.toNat).Points.length).X1))) + 1)] (by kernel_rfl) hB ⟨h4, h5, trivial⟩ ?_
       refine ae_then ?_
       refine aw_true rfl ?_
       refine aw_seq ?_
       refine aw_reg [] [0, 1, 5, 6, 8, 10] [5] [.ptr false [slStroke false x.Strokes], I stroke, .ref 5 0, I k, I k, I (((min (((boxS (at_ x.Strokes stroke.toNat).Points (at_ x.Strokes stroke.toNat).Points.length).X2) + 40) ((boxS (at_ x.Strokes k.toNat).Points (at_ x.Strokes k.toNat).Points.length).X2)) - (max (((boxS (at_ x.Strokes stroke.toNat).Points (at_ x.Strokes stroke.toNat).Points.length).X1) - 40) ((boxS (at_ x.Strokes k.toNat).Points (at_ x.Strokes k.toNat).Points.length).X1))) + 1)] [some (bxBox (boxS (at_ x.Strokes stroke.toNat).Points (at_ x.Strokes stroke.toNat).Points.length))] [] (by kernel_rfl) hB trivial ?_
       refine ae_then ?_
       refine aw_reg [] [0, 1, 5, 6, 7, 8] [5] [.ptr false [slStroke false x.Strokes], I stroke, .ref 5 0, I k, I (((min (((boxS (at_ x.Strokes stroke.toNat).Points (at_ x.Strokes stroke.toNat).Points.length).X2) + 40) ((boxS (at_ x.Strokes k.toNat).Points (at_ x.Strokes k.toNat).Points.length).X2)) - (max (((boxS (at_ x.Strokes stroke.toNat).Points (at_ x.Strokes stroke.toNat).Points.length).X1) - 40) ((boxS (at_ x.Strokes k.toNat).Points (at_ x.Strokes k.toNat).Points.length).X1))) + 1), I k] [some (bxBox (boxS (at_ x.Strokes stroke.toNat).Points (at_ x.Strokes stroke.toNat).Points.length))] [] (by kernel_rfl) hB trivial ?_
       refine ae_block 1 ?_
       refine ae_then ?_
       refine aw_reg [] [0, 1, 5, 6, 7, 8] [5] [.ptr false [slStroke false x.Strokes], I stroke, .ref 5 0, I k, I (((min (((boxS (at_ x.Strokes stroke.toNat).Points (at_ x.Strokes stroke.toNat).Points.length).X2) + 40) ((boxS (at_ x.Strokes k.toNat).Points (at_ x.Strokes k.toNat).Points.length).X2)) - (max (((boxS (at_ x.Strokes stroke.toNat).Points (at_ x.Strokes stroke.toNat).Points.length).X1) - 40) ((boxS (at_ x.Strokes k.toNat).Points (at_ x.Strokes k.toNat).Points.length).X1))) + 1), I (k + 1)] [some (bxBox (boxS (at_ x.Strokes stroke.toNat).Points (at_ x.Strokes stroke.toNat).Points.length))] [inR .i64 (k + 1)] (by kernel_rfl) hB ⟨(inR_i64 (by omega) (by omega)), trivial⟩ ?_
       exact ae_again _ (by omega) ⟨k, (((min (((boxS (at_ x.Strokes stroke.toNat).Points (at_ x.Strokes stroke.toNat).Points.length).X2) + 40) ((boxS (at_ x.Strokes k.toNat).Points (at_ x.Strokes k.toNat).Points.length).X2)) - (max (((boxS (at_ x.Strokes stroke.toNat).Points (at_ x.Strokes stroke.toNat).Points.length).X1) - 40) ((boxS (at_ x.Strokes k.toNat).Points (at_ x.Strokes k.toNat).Points.length).X1))) + 1), (k + 1), rfl, (by omega), (by rw [hgn]; first | exact hg0 | exact ⟨rfl, fun q => by omega, fun _ => by unfold comI; omega⟩), rfl⟩
      ·have hgn := homeG_no (ss := x.Strokes) (d := (boxS (at_ x.Strokes stroke.toNat).Points (at_ x.Strokes stroke.toNat).Points.length)) hi0.1 (fun q => by have q2 := q.2; unfold comI at q2; omega)
       refine aw_reg [(1, .dec true), (5, .dec false)] [0, 1, 5, 6, 7, 8, 10, 65] [5] [.ptr false [slStroke false x.Strokes], I stroke, .ref 5 0, I home, I most, I k, I (((min (((boxS (at_ x.Strokes stroke.toNat).Points (at_ x.Strokes stroke.toNat).Points.length).X2) + 40) ((boxS (at_ x.Strokes k.toNat).Points (at_ x.Strokes k.toNat).Points.length).X2)) - (max (((boxS (at_ x.Strokes stroke.toNat).Points (at_ x.Strokes stroke.toNat).Points.length).X1) - 40) ((boxS (at_ x.Strokes k.toNat).Points (at_ x.Strokes k.toNat).Points.length).X1))) + 1), Bv false] [some (bxBox (boxS (at_ x.Strokes stroke.toNat).Points (at_ x.Strokes stroke.toNat).Points.length))] [0 < (((min (((boxS (at_ x.Strokes stroke.toNat).Points (at_ x.Strokes stroke.toNat).Points.length).X2) + 40) ((boxS (at_ x.Strokes k.toNat).Points (at_ x.Strokes k.toNat).Points.length).X2)) - (max (((boxS (at_ x.Strokes stroke.toNat).Points (at_ x.Strokes stroke.toNat).Points.length).X1) - 40) ((boxS (at_ x.Strokes k.toNat).Points (at_ x.Strokes k.toNat).Points.length).X1))) + 1), ¬ (most ≤ (((min (((boxS (at_ x.Strokes stroke.toNat).Points (at_ x.Strokes stroke.toNat).Points.length).X2) + 40) ((boxS (at_ x.Strokes k.toNat).Points (at_ x.Strokes k.toNat).Points.length).X2)) - (max (((boxS (at_ x.Strokes stroke.toNat).Points (at_ x.Strokes stroke.toNat).Points.length).X1) - 40) ((boxS (at_ x.Strokes k.toNat).Points (at_ x.Strokes k.toNat).Points.length).X1))) + 1))] (by kernel_rfl) hB ⟨h4, h5, trivial⟩ ?_
       refine ae_then ?_
       refine aw_false rfl ?_
       refine aw_skip ?_
       refine ae_block 1 ?_
       refine ae_then ?_
       refine aw_reg [] [0, 1, 5, 6, 7, 8] [5] [.ptr false [slStroke false x.Strokes], I stroke, .ref 5 0, I home, I most, I (k + 1)] [some (bxBox (boxS (at_ x.Strokes stroke.toNat).Points (at_ x.Strokes stroke.toNat).Points.length))] [inR .i64 (k + 1)] (by kernel_rfl) hB ⟨(inR_i64 (by omega) (by omega)), trivial⟩ ?_
       exact ae_again _ (by omega) ⟨home, most, (k + 1), rfl, (by omega), (by rw [hgn]; first | exact hg0 | exact ⟨rfl, fun q => by omega, fun _ => by unfold comI; omega⟩), rfl⟩
     ·have hgn := homeG_no (ss := x.Strokes) (d := (boxS (at_ x.Strokes stroke.toNat).Points (at_ x.Strokes stroke.toNat).Points.length)) hi0.1 (fun q => by have q2 := q.2; unfold comI at q2; omega)
      refine aw_reg [(1, .dec false)] [0, 1, 5, 6, 7, 8, 10, 65] [5] [.ptr false [slStroke false x.Strokes], I stroke, .ref 5 0, I home, I most, I k, I (((min (((boxS (at_ x.Strokes stroke.toNat).Points (at_ x.Strokes stroke.toNat).Points.length).X2) + 40) ((boxS (at_ x.Strokes k.toNat).Points (at_ x.Strokes k.toNat).Points.length).X2)) - (max (((boxS (at_ x.Strokes stroke.toNat).Points (at_ x.Strokes stroke.toNat).Points.length).X1) - 40) ((boxS (at_ x.Strokes k.toNat).Points (at_ x.Strokes k.toNat).Points.length).X1))) + 1), Bv false] [some (bxBox (boxS (at_ x.Strokes stroke.toNat).Points (at_ x.Strokes stroke.toNat).Points.length))] [¬ (0 < (((min (((boxS (at_ x.Strokes stroke.toNat).Points (at_ x.Strokes stroke.toNat).Points.length).X2) + 40) ((boxS (at_ x.Strokes k.toNat).Points (at_ x.Strokes k.toNat).Points.length).X2)) - (max (((boxS (at_ x.Strokes stroke.toNat).Points (at_ x.Strokes stroke.toNat).Points.length).X1) - 40) ((boxS (at_ x.Strokes k.toNat).Points (at_ x.Strokes k.toNat).Points.length).X1))) + 1))] (by kernel_rfl) hB ⟨h4, trivial⟩ ?_
      refine ae_then ?_
      refine aw_false rfl ?_
      refine aw_skip ?_
      refine ae_block 1 ?_
      refine ae_then ?_
      refine aw_reg [] [0, 1, 5, 6, 7, 8] [5] [.ptr false [slStroke false x.Strokes], I stroke, .ref 5 0, I home, I most, I (k + 1)] [some (bxBox (boxS (at_ x.Strokes stroke.toNat).Points (at_ x.Strokes stroke.toNat).Points.length))] [inR .i64 (k + 1)] (by kernel_rfl) hB ⟨(inR_i64 (by omega) (by omega)), trivial⟩ ?_
      exact ae_again _ (by omega) ⟨home, most, (k + 1), rfl, (by omega), (by rw [hgn]; first | exact hg0 | exact ⟨rfl, fun q => by omega, fun _ => by unfold comI; omega⟩), rfl⟩
   ·have hie : k.toNat = stroke.toNat := by omega
    refine aw_reg [(2, .dec false)] [0, 1, 5, 6, 7, 8, 28] [5] [.ptr false [slStroke false x.Strokes], I stroke, .ref 5 0, I home, I most, I k, Bv false] [some (bxBox (boxS (at_ x.Strokes stroke.toNat).Points (at_ x.Strokes stroke.toNat).Points.length))] [¬ (k < stroke)] (by kernel_rfl) hB ⟨h2, trivial⟩ ?_
    refine ae_then ?_
    refine aw_false rfl ?_
    refine aw_exit ?_
    refine ae_exit_then ?_
    refine ae_exit_then ?_
    refine ae_exit_same ?_
    refine ae_then ?_
    refine aw_seq ?_
    refine aw_reg [] [4] [] [I home] [] [] (by kernel_rfl) hB trivial ?_
    refine ae_then ?_
    refine aw_ret ?_
    refine ae_ret hB (I home) (by kernel_rfl) (.inl (by first | (rw [homeI, if_pos (by assumption), ← hie]; exact congrArg I hg0.1) | (simp [homeI, *]; done))) rfl (fun _ => trivial)
  ·refine aw_reg [(6, .call [(true, .ptr false [slPoint false ((at_ x.Strokes stroke.toNat).Points)])] true (Bv false))] [0, 1, 18] [] [.ptr false [slStroke false x.Strokes], I stroke, Bv true] [] [(0 : Int) ≤ stroke ∧ stroke < (x.Strokes.length : Int), Con Try.prog 60 [.ptr false [slPoint false ((at_ x.Strokes stroke.toNat).Points)]] true (Bv false) ∧ ((.ptr false [slPoint false ((at_ x.Strokes stroke.toNat).Points)] : AV) = .ptr false [slPoint false ((at_ x.Strokes stroke.toNat).Points)]) ∧ True] (by kernel_rfl) hB ⟨⟨(by omega), (by omega)⟩, ⟨(con_bool h1 (l14Dot_ok (at_ x.Strokes stroke.toNat) (by first | assumption | exact okI_all ok _ (by omega)))), rfl, trivial⟩, trivial⟩ ?_
   refine ae_then ?_
   refine aw_true rfl ?_
   refine aw_seq ?_
   refine aw_reg [] [4] [] [I (-1)] [] [] (by kernel_rfl) hB trivial ?_
   refine ae_then ?_
   refine aw_ret ?_
   refine ae_ret_then ?_
   refine ae_ret hB (I (-1)) (by kernel_rfl) (.inl (by first | (rw [homeI, if_pos (by assumption), ← hie]; exact congrArg I hg0.1) | (simp [homeI, *]; done))) rfl (fun _ => trivial)


theorem app_next {xs : List Int} {i : Int} {f : Nat → Int} {y : Int} (hl : (xs.length : Int) = i) (h : ∀ j : Nat, (j : Int) < i → at_ xs j = f j) (hy : y = f i.toNat) : ∀ j : Nat, (j : Int) < i + 1 → at_ (xs ++ [y]) j = f j := fun j hj => by
  by_cases e : (j : Int) < i
  · have : at_ (xs ++ [y]) j = at_ xs j := by simp [at_, List.getElem?_append_left (show j < xs.length by omega)]
    rw [this]; exact h j e
  · have : j = xs.length := by omega
    subst this
    have e2 : i.toNat = xs.length := by omega
    simp [at_, hy, e2]

-- spec.l14Order
theorem l14Order_ok (ik : Ink) (ok : okInk' ik = true) : ∃ (order : List Int), (order = ordL ik.Strokes) ∧ CallOK Try.prog 35 [.ptr false [slStroke false ik.Strokes]] (lookO []) false (.arr 8311) (lookO [(8311, .arr 1 order.length (fI order))]) := by
  have hil := okI_len ok
  have hh : ∃ r : (List Int), ((r = ordL ik.Strokes) ∧ (True)) ∧ CallOK Try.prog 35 [.ptr false [slStroke false ik.Strokes]] (lookO []) false (.arr 8311) (lookO [(8311, .arr 1 r.length (fI r))]) := by
    refine fn_okX (Φ := fun r : (List Int) => (r = ordL ik.Strokes) ∧ (True)) [] (fun r => [(8311, .arr 1 r.length (fI r))]) (fn := Try.f35) (nt := 57) Try.func35 rfl rfl (args := [.ptr false [slStroke false ik.Strokes]]) rfl (allcons (.inl ⟨rfl, by simp [tagged, taggedL, tagStroke]⟩) allnil) (res := fun r => .arr 8311) ?_
    refine x_seq ?_
    refine x_reg [] [0] [] [.ptr false [slStroke false ik.Strokes]] [] [] (by kernel_rfl) trivial ?_
    refine xe_then ?_
    refine x_seq ?_
    refine x_reg [(0, .new 8)] [0, 3] [8] [.ptr false [slStroke false ik.Strokes], .arr 8] [some (.arr 1 0 (litF [] 1))] [] (by kernel_rfl) trivial ?_
    refine xe_then ?_
    refine x_seq ?_
    refine x_seq ?_
    refine x_reg [] [0, 3, 4] [8] [.ptr false [slStroke false ik.Strokes], .arr 8, I 0] [some (.arr 1 0 (litF [] 1))] [] (by kernel_rfl) trivial ?_
    refine xe_then ?_
    refine x_block ?_
    refine x_weak [] (T := [(0, .ptr false [slStroke false ik.Strokes]), (3, .arr 8), (4, I 0)]) (O := [(8, .arr 1 (([] : List Int).length) (fI ([] : List Int)))]) rfl (⟨.inl rfl, .inl rfl, .inl rfl, trivial⟩) (⟨.inr ⟨rfl, (by first | rfl | (simp; done) | (simp; omega) | omega), fun i_ hi_ => absurd hi_ (Nat.not_lt_zero _)⟩, trivial⟩) ?_
    refine x_loop (X := (List Int) × Int) (fun x => mkS [(0, .ptr false [slStroke false ik.Strokes]), (3, .arr 8), (4, I x.2)] [(8, .arr 1 x.1.length (fI x.1))]) (fun x => (0 ≤ x.2 ∧ x.2 ≤ (ik.Strokes.length : Int)) ∧ ((x.1.length : Int) = x.2) ∧ (∀ j : Nat, (j : Int) < x.2 → at_ x.1 j = homeI ik.Strokes j) ∧ True) (fun x => ((ik.Strokes.length : Int) - x.2).toNat) (([] : List Int), 0) rfl (show (0 ≤ (0 : Int) ∧ (0 : Int) ≤ (ik.Strokes.length : Int)) ∧ ((([] : List Int).length : Int) = (0 : Int)) ∧ (∀ j : Nat, (j : Int) < (0 : Int) → at_ ([] : List Int) j = homeI ik.Strokes j) ∧ True from ⟨(by omega), (by rfl), (by intro j hj; omega), trivial⟩) (fun x hI => ?_)
    obtain ⟨homes, k⟩ := x
    obtain ⟨hi0, hl0, hh0, _⟩ : (0 ≤ k ∧ k ≤ (ik.Strokes.length : Int)) ∧ ((homes.length : Int) = k) ∧ (∀ j : Nat, (j : Int) < k → at_ homes j = homeI ik.Strokes j) ∧ True := hI
    show XW _ _ _ _ (mkS [(0, .ptr false [slStroke false ik.Strokes]), (3, .arr 8), (4, I k)] [(8, .arr 1 homes.length (fI homes))]) _ _
    refine x_seq ?_
    refine x_seq ?_
    by_cases h1 : k < (ik.Strokes.length : Int)
    ·have hi : k.toNat < ik.Strokes.length := by omega
     refine x_reg [(6, .dec true)] [0, 3, 4, 15] [8] [.ptr false [slStroke false ik.Strokes], .arr 8, I k, Bv true] [some (.arr 1 homes.length (fI homes))] [k < (ik.Strokes.length : Int)] (by kernel_rfl) ⟨h1, trivial⟩ ?_
     refine xe_then ?_
     refine x_true rfl ?_
     refine x_skip ?_
     refine xe_then ?_
     refine x_seq ?_
     refine x_block ?_
     refine x_reg [(3, .call [(true, .ptr false [slStroke false ik.Strokes]), (true, I k)] true (I (homeI ik.Strokes k.toNat))), (4, .new 22), (5, .new 23)] [0, 3, 4] [23] [.ptr false [slStroke false ik.Strokes], .arr 23, I k] [some (.arr 1 (homes.length + 1) (catF homes.length (fI homes) (litF [I (homeI ik.Strokes k.toNat)] 1)))] [Con Try.prog 49 [.ptr false [slStroke false ik.Strokes], I k] true (I (homeI ik.Strokes k.toNat)) ∧ ((.ptr false [slStroke false ik.Strokes] : AV) = .ptr false [slStroke false ik.Strokes]) ∧ ((I k : AV) = I k) ∧ True, (homes.length + 1) * 8 ≤ 140737488355328] (by kernel_rfl) ⟨⟨(l14Home_ok ik k ok (by omega)), rfl, rfl, trivial⟩, (by omega), trivial⟩ ?_
     refine xe_block 1 ?_
     refine xe_then ?_
     refine x_reg [] [0, 3, 4] [23] [.ptr false [slStroke false ik.Strokes], .arr 23, I (k + 1)] [some (.arr 1 (homes.length + 1) (catF homes.length (fI homes) (litF [I (homeI ik.Strokes k.toNat)] 1)))] [inR .i64 (k + 1)] (by kernel_rfl) ⟨(inR_i64 (by omega) (by omega)), trivial⟩ ?_
     refine xe_weak [(8, 23)] (T := [(0, .ptr false [slStroke false ik.Strokes]), (3, .arr 8), (4, I (k + 1))]) (O := [(8, .arr 1 ((homes ++ [(homeI ik.Strokes k.toNat)]).length) (fI (homes ++ [(homeI ik.Strokes k.toNat)])))]) rfl (⟨.inl rfl, .inl rfl, .inl rfl, trivial⟩) (⟨.inr ⟨rfl, (by first | rfl | (simp; done) | (simp; omega) | omega), fun i_ hi_ => .inl (cat_snoc (enc := cI) (xs := homes) rfl i_ hi_)⟩, trivial⟩) (xe_again ((homes ++ [(homeI ik.Strokes k.toNat)]), (k + 1)) rfl (show (0 ≤ (k + 1) ∧ (k + 1) ≤ (ik.Strokes.length : Int)) ∧ (((homes ++ [(homeI ik.Strokes k.toNat)]).length : Int) = (k + 1)) ∧ (∀ j : Nat, (j : Int) < (k + 1) → at_ (homes ++ [(homeI ik.Strokes k.toNat)]) j = homeI ik.Strokes j) ∧ True from ⟨(by omega), (by simp; omega), (by exact app_next hl0 hh0 rfl), trivial⟩) (by show (((ik.Strokes.length : Int) - (k + 1)).toNat : Nat) < ((ik.Strokes.length : Int) - k).toNat; omega))
    ·have hfin : homes = homesL ik.Strokes := homesL_of (by omega) (fun j hj => hh0 j (by omega))
     subst hfin
     refine x_reg [(6, .dec false)] [0, 3, 4, 15] [8] [.ptr false [slStroke false ik.Strokes], .arr 8, I k, Bv false] [some (.arr 1 ((homesL ik.Strokes).length) (fI (homesL ik.Strokes)))] [¬ (k < (ik.Strokes.length : Int))] (by kernel_rfl) ⟨h1, trivial⟩ ?_
     refine xe_then ?_
     refine x_false rfl ?_
     refine x_exit ?_
     refine xe_exit_then ?_
     refine xe_loop_exit ?_
     refine xe_exit_same ?_
     refine xe_then ?_
     refine x_seq ?_
     refine x_reg [(0, .new 24)] [3, 5] [8, 24] [.arr 8, .arr 24] [some (.arr 1 ((homesL ik.Strokes).length) (fI (homesL ik.Strokes))), some (.arr 1 0 (litF [] 1))] [] (by kernel_rfl) trivial ?_
     refine xe_then ?_
     refine x_seq ?_
     refine x_seq ?_
     refine x_reg [] [3, 5, 6] [8, 24] [.arr 8, .arr 24, I 0] [some (.arr 1 ((homesL ik.Strokes).length) (fI (homesL ik.Strokes))), some (.arr 1 0 (litF [] 1))] [] (by kernel_rfl) trivial ?_
     refine xe_then ?_
     refine x_block ?_
     refine x_weak [] (T := [(3, slI true (homesL ik.Strokes)), (5, .arr 24), (6, I 0)]) (O := [(24, .arr 1 (([] : List Int).length) (fI ([] : List Int)))]) rfl (⟨.inr ⟨(fun _ => rfl), rfl, rfl, fun i _ => .inl rfl⟩, .inl rfl, .inl rfl, trivial⟩) (⟨.inr ⟨rfl, (by first | rfl | (simp; done) | (simp; omega) | omega), fun i_ hi_ => absurd hi_ (Nat.not_lt_zero _)⟩, trivial⟩) ?_
     refine x_loop (X := (List Int) × Int) (fun x => mkS [(3, slI true (homesL ik.Strokes)), (5, .arr 24), (6, I x.2)] [(24, .arr 1 x.1.length (fI x.1))]) (fun x => (0 ≤ x.2 ∧ x.2 ≤ (ik.Strokes.length : Int)) ∧ (x.1 = ordP (homesL ik.Strokes) x.2.toNat) ∧ True) (fun x => ((ik.Strokes.length : Int) - x.2).toNat) (([] : List Int), 0) rfl (show (0 ≤ (0 : Int) ∧ (0 : Int) ≤ (ik.Strokes.length : Int)) ∧ (([] : List Int) = ordP (homesL ik.Strokes) (0 : Int).toNat) ∧ True from ⟨(by omega), (by rfl), trivial⟩) (fun x hI => ?_)
     obtain ⟨out, q⟩ := x
     obtain ⟨hi1, ho1, _⟩ : (0 ≤ q ∧ q ≤ (ik.Strokes.length : Int)) ∧ (out = ordP (homesL ik.Strokes) q.toNat) ∧ True := hI
     show XW _ _ _ _ (mkS [(3, slI true (homesL ik.Strokes)), (5, .arr 24), (6, I q)] [(24, .arr 1 out.length (fI out))]) _ _
     refine x_seq ?_
     refine x_seq ?_
     by_cases h2 : q < (((homesL ik.Strokes).length) : Int)
     ·have hi : q.toNat < ik.Strokes.length := by omega
      have hol := ordP_len (homesL ik.Strokes) q.toNat
      rw [homesL_len] at hol
      have hlb := Nat.mul_le_mul (show q.toNat ≤ 16 by omega) (show ik.Strokes.length + 1 ≤ 17 by omega)
      have hrl := rowP_len (homesL ik.Strokes) q.toNat ik.Strokes.length
      have hhl := homesL_len ik.Strokes
      have holn : out.length = (ordP (homesL ik.Strokes) q.toNat).length := by rw [ho1]
      refine x_reg [(3, .dec true)] [3, 5, 6, 28] [24] [slI true (homesL ik.Strokes), .arr 24, I q, Bv true] [some (.arr 1 out.length (fI out))] [q < (((homesL ik.Strokes).length) : Int)] (by kernel_rfl) ⟨h2, trivial⟩ ?_
      refine xe_then ?_
      refine x_true rfl ?_
      refine x_skip ?_
      refine xe_then ?_
      refine x_seq ?_
      refine x_block ?_
      refine x_seq ?_
      refine x_seq ?_
      by_cases h3 : 0 ≤ (at_ (homesL ik.Strokes) q.toNat)
      ·refine x_reg [(4, .dec true)] [3, 5, 6, 35] [24] [slI true (homesL ik.Strokes), .arr 24, I q, Bv true] [some (.arr 1 out.length (fI out))] [(0 : Int) ≤ q ∧ q < (((homesL ik.Strokes).length) : Int), 0 ≤ (at_ (homesL ik.Strokes) q.toNat)] (by kernel_rfl) ⟨⟨(by omega), (by omega)⟩, h3, trivial⟩ ?_
       refine xe_then ?_
       refine x_true rfl ?_
       refine x_exit ?_
       refine xe_exit_then ?_
       refine xe_exit_same ?_
       refine xe_then ?_
       refine x_reg [] [3, 5, 6] [24] [slI true (homesL ik.Strokes), .arr 24, I (q + 1)] [some (.arr 1 out.length (fI out))] [inR .i64 (q + 1)] (by kernel_rfl) ⟨(inR_i64 (by omega) (by omega)), trivial⟩ ?_
       exact xe_again (out, (q + 1)) rfl (show (0 ≤ (q + 1) ∧ (q + 1) ≤ (ik.Strokes.length : Int)) ∧ (out = ordP (homesL ik.Strokes) (q + 1).toNat) ∧ True from ⟨(by omega), (by first | (rw [ordP_no hi1.1 (by omega)]; exact ho1) | (rw [ordP_yes hi1.1 (homesL_len _).symm (by omega), ho2, hie])), trivial⟩) (by show (((ik.Strokes.length : Int) - (q + 1)).toNat : Nat) < ((ik.Strokes.length : Int) - q).toNat; omega)
      ·refine x_reg [(4, .dec false)] [3, 5, 6, 35] [24] [slI true (homesL ik.Strokes), .arr 24, I q, Bv false] [some (.arr 1 out.length (fI out))] [(0 : Int) ≤ q ∧ q < (((homesL ik.Strokes).length) : Int), ¬ (0 ≤ (at_ (homesL ik.Strokes) q.toNat))] (by kernel_rfl) ⟨⟨(by omega), (by omega)⟩, h3, trivial⟩ ?_
       refine xe_then ?_
       refine x_false rfl ?_
       refine x_skip ?_
       refine xe_then ?_
       refine x_seq ?_
       refine x_reg [(2, .new 38), (3, .new 39)] [3, 5, 6] [39] [slI true (homesL ik.Strokes), .arr 39, I q] [some (.arr 1 (out.length + 1) (catF out.length (fI out) (litF [I q] 1)))] [(out.length + 1) * 8 ≤ 140737488355328] (by kernel_rfl) ⟨(by omega), trivial⟩ ?_
       refine xe_then ?_
       refine x_seq ?_
       refine x_reg [] [3, 5, 6, 7] [39] [slI true (homesL ik.Strokes), .arr 39, I q, I 0] [some (.arr 1 (out.length + 1) (catF out.length (fI out) (litF [I q] 1)))] [] (by kernel_rfl) trivial ?_
       refine xe_then ?_
       refine x_block ?_
       refine x_weak [] (T := [(3, slI true (homesL ik.Strokes)), (5, .arr 39), (6, I q), (7, I 0)]) (O := [(39, .arr 1 ((out ++ [q]).length) (fI (out ++ [q])))]) rfl (⟨.inl rfl, .inl rfl, .inl rfl, .inl rfl, trivial⟩) (⟨.inr ⟨rfl, (by first | rfl | (simp; done) | (simp; omega) | omega), fun i_ hi_ => .inl (cat_snoc (enc := cI) (xs := out) rfl i_ hi_)⟩, trivial⟩) ?_
       refine x_loop (X := (List Int) × Int) (fun x => mkS [(3, slI true (homesL ik.Strokes)), (5, .arr 39), (6, I q), (7, I x.2)] [(39, .arr 1 x.1.length (fI x.1))]) (fun x => (0 ≤ x.2 ∧ x.2 ≤ (ik.Strokes.length : Int)) ∧ (x.1 = (ordP (homesL ik.Strokes) q.toNat ++ [q]) ++ rowP (homesL ik.Strokes) q.toNat x.2.toNat) ∧ True) (fun x => ((ik.Strokes.length : Int) - x.2).toNat) ((out ++ [q]), 0) rfl (show (0 ≤ (0 : Int) ∧ (0 : Int) ≤ (ik.Strokes.length : Int)) ∧ ((out ++ [q]) = (ordP (homesL ik.Strokes) q.toNat ++ [q]) ++ rowP (homesL ik.Strokes) q.toNat (0 : Int).toNat) ∧ True from ⟨(by omega), (by rw [ho1]; exact (List.append_nil _).symm), trivial⟩) (fun x hI => ?_)
       obtain ⟨out', d⟩ := x
       obtain ⟨hi2, ho2, _⟩ : (0 ≤ d ∧ d ≤ (ik.Strokes.length : Int)) ∧ (out' = (ordP (homesL ik.Strokes) q.toNat ++ [q]) ++ rowP (homesL ik.Strokes) q.toNat d.toNat) ∧ True := hI
       show XW _ _ _ _ (mkS [(3, slI true (homesL ik.Strokes)), (5, .arr 39), (6, I q), (7, I d)] [(39, .arr 1 out'.length (fI out'))]) _ _
       refine x_seq ?_
       refine x_seq ?_
       by_cases h4 : d < (((homesL ik.Strokes).length) : Int)
       ·have hi2x : d.toNat < ik.Strokes.length := by omega
        have hrp := rowP_len (homesL ik.Strokes) q.toNat d.toNat
        have hon := congrArg List.length ho2
        simp only [List.length_append, List.length_cons, List.length_nil] at hon
        refine x_reg [(3, .dec true)] [3, 5, 6, 7, 43] [39] [slI true (homesL ik.Strokes), .arr 39, I q, I d, Bv true] [some (.arr 1 out'.length (fI out'))] [d < (((homesL ik.Strokes).length) : Int)] (by kernel_rfl) ⟨h4, trivial⟩ ?_
        refine xe_then ?_
        refine x_true rfl ?_
        refine x_skip ?_
        refine xe_then ?_
        refine x_seq ?_
        refine x_block ?_
        refine x_seq ?_
        by_cases h5 : (at_ (homesL ik.Strokes) d.toNat) = q
        ·refine x_reg [(5, .dec true)] [3, 5, 6, 7, 51] [39] [slI true (homesL ik.Strokes), .arr 39, I q, I d, Bv true] [some (.arr 1 out'.length (fI out'))] [(0 : Int) ≤ d ∧ d < (((homesL ik.Strokes).length) : Int), (at_ (homesL ik.Strokes) d.toNat) = q] (by kernel_rfl) ⟨⟨(by omega), (by omega)⟩, h5, trivial⟩ ?_
         refine xe_then ?_
         refine x_true rfl ?_
         refine x_reg [(2, .new 54), (3, .new 55)] [3, 5, 6, 7] [55] [slI true (homesL ik.Strokes), .arr 55, I q, I d] [some (.arr 1 (out'.length + 1) (catF out'.length (fI out') (litF [I d] 1)))] [(out'.length + 1) * 8 ≤ 140737488355328] (by kernel_rfl) ⟨(by omega), trivial⟩ ?_
         refine xe_block 5 ?_
         refine xe_then ?_
         refine x_reg [] [3, 5, 6, 7] [55] [slI true (homesL ik.Strokes), .arr 55, I q, I (d + 1)] [some (.arr 1 (out'.length + 1) (catF out'.length (fI out') (litF [I d] 1)))] [inR .i64 (d + 1)] (by kernel_rfl) ⟨(inR_i64 (by omega) (by omega)), trivial⟩ ?_
         refine xe_weak [(39, 55)] (T := [(3, slI true (homesL ik.Strokes)), (5, .arr 39), (6, I q), (7, I (d + 1))]) (O := [(39, .arr 1 ((out' ++ [d]).length) (fI (out' ++ [d])))]) rfl (⟨.inl rfl, .inl rfl, .inl rfl, .inl rfl, trivial⟩) (⟨.inr ⟨rfl, (by first | rfl | (simp; done) | (simp; omega) | omega), fun i_ hi_ => .inl (cat_snoc (enc := cI) (xs := out') rfl i_ hi_)⟩, trivial⟩) (xe_again ((out' ++ [d]), (d + 1)) rfl (show (0 ≤ (d + 1) ∧ (d + 1) ≤ (ik.Strokes.length : Int)) ∧ ((out' ++ [d]) = (ordP (homesL ik.Strokes) q.toNat ++ [q]) ++ rowP (homesL ik.Strokes) q.toNat (d + 1).toNat) ∧ True from ⟨(by omega), (by first | (rw [rowP_yes hi2.1 hi1.1 (by omega), ← List.append_assoc, ← ho2]; done) | (rw [rowP_no hi2.1 hi1.1 (by omega)]; exact ho2)), trivial⟩) (by show (((ik.Strokes.length : Int) - (d + 1)).toNat : Nat) < ((ik.Strokes.length : Int) - d).toNat; omega))
        ·refine x_reg [(5, .dec false)] [3, 5, 6, 7, 51] [39] [slI true (homesL ik.Strokes), .arr 39, I q, I d, Bv false] [some (.arr 1 out'.length (fI out'))] [(0 : Int) ≤ d ∧ d < (((homesL ik.Strokes).length) : Int), ¬ ((at_ (homesL ik.Strokes) d.toNat) = q)] (by kernel_rfl) ⟨⟨(by omega), (by omega)⟩, h5, trivial⟩ ?_
         refine xe_then ?_
         refine x_false rfl ?_
         refine x_skip ?_
         refine xe_block 5 ?_
         refine xe_then ?_
         refine x_reg [] [3, 5, 6, 7] [39] [slI true (homesL ik.Strokes), .arr 39, I q, I (d + 1)] [some (.arr 1 out'.length (fI out'))] [inR .i64 (d + 1)] (by kernel_rfl) ⟨(inR_i64 (by omega) (by omega)), trivial⟩ ?_
         exact xe_again (out', (d + 1)) rfl (show (0 ≤ (d + 1) ∧ (d + 1) ≤ (ik.Strokes.length : Int)) ∧ (out' = (ordP (homesL ik.Strokes) q.toNat ++ [q]) ++ rowP (homesL ik.Strokes) q.toNat (d + 1).toNat) ∧ True from ⟨(by omega), (by first | (rw [rowP_yes hi2.1 hi1.1 (by omega), ← List.append_assoc, ← ho2]; done) | (rw [rowP_no hi2.1 hi1.1 (by omega)]; exact ho2)), trivial⟩) (by show (((ik.Strokes.length : Int) - (d + 1)).toNat : Nat) < ((ik.Strokes.length : Int) - d).toNat; omega)
       ·have hie : d.toNat = ik.Strokes.length := by omega
        refine x_reg [(3, .dec false)] [3, 5, 6, 7, 43] [39] [slI true (homesL ik.Strokes), .arr 39, I q, I d, Bv false] [some (.arr 1 out'.length (fI out'))] [¬ (d < (((homesL ik.Strokes).length) : Int))] (by kernel_rfl) ⟨h4, trivial⟩ ?_
        refine xe_then ?_
        refine x_false rfl ?_
        refine x_exit ?_
        refine xe_exit_then ?_
        refine xe_loop_exit ?_
        refine xe_exit_same ?_
        refine xe_block 3 ?_
        refine xe_then ?_
        refine x_reg [] [3, 5, 6] [39] [slI true (homesL ik.Strokes), .arr 39, I (q + 1)] [some (.arr 1 out'.length (fI out'))] [inR .i64 (q + 1)] (by kernel_rfl) ⟨(inR_i64 (by omega) (by omega)), trivial⟩ ?_
        refine xe_weak [(24, 39)] (T := [(3, slI true (homesL ik.Strokes)), (5, .arr 24), (6, I (q + 1))]) (O := [(24, .arr 1 out'.length (fI out'))]) rfl (⟨.inl rfl, .inl rfl, .inl rfl, trivial⟩) (⟨.inl rfl, trivial⟩) (xe_again (out', (q + 1)) rfl (show (0 ≤ (q + 1) ∧ (q + 1) ≤ (ik.Strokes.length : Int)) ∧ (out' = ordP (homesL ik.Strokes) (q + 1).toNat) ∧ True from ⟨(by omega), (by first | (rw [ordP_no hi1.1 (by omega)]; exact ho1) | (rw [ordP_yes hi1.1 (homesL_len _).symm (by omega), ho2, hie])), trivial⟩) (by show (((ik.Strokes.length : Int) - (q + 1)).toNat : Nat) < ((ik.Strokes.length : Int) - q).toNat; omega))
     ·have hie : q.toNat = ik.Strokes.length := by omega
      refine x_reg [(3, .dec false)] [3, 5, 6, 28] [24] [slI true (homesL ik.Strokes), .arr 24, I q, Bv false] [some (.arr 1 out.length (fI out))] [¬ (q < (((homesL ik.Strokes).length) : Int))] (by kernel_rfl) ⟨h2, trivial⟩ ?_
      refine xe_then ?_
      refine x_false rfl ?_
      refine x_exit ?_
      refine xe_exit_then ?_
      refine xe_loop_exit ?_
      refine xe_exit_same ?_
      refine xe_then ?_
      refine x_seq ?_
      refine x_reg [] [2] [24] [.arr 24] [some (.arr 1 out.length (fI out))] [] (by kernel_rfl) trivial ?_
      refine xe_then ?_
      refine x_ret ?_
      refine xe_weak [(8311, 24)] (T := [(2, .arr 8311)]) (O := [(8311, .arr 1 out.length (fI out))]) rfl (⟨.inl rfl, trivial⟩) (⟨.inl rfl, trivial⟩) ?_
      refine xe_end out (show (out = ordL ik.Strokes) ∧ (True) from ⟨(by rw [ho1, hie]; rfl), trivial⟩) (⟨.inl rfl, trivial⟩) (.arr 8311) (by kernel_rfl) (.inl rfl) (fun h => by cases h) (fun h => by cases h)
  obtain ⟨order, ⟨hh0, _⟩, hc⟩ := hh
  exact ⟨order, hh0, hc⟩


-- spec.l14Gap
theorem l14Gap_ok (ik : Ink) (order : List Int) (place : Int) (ok : okInk' ik = true) (ho : order = ordL ik.Strokes) (hp : 0 ≤ place ∧ place < (ik.Strokes.length : Int)) : Con Try.prog 34 [.ptr false [slStroke false ik.Strokes], slI false order, I place] true (I (gapI ik.Strokes order place.toNat)) := by
  have hil := okI_len ok
  have hol := ordL_len ik.Strokes
  rw [← ho] at hol
  have hpa := ordL_at (ss := ik.Strokes) (k := place.toNat) (by omega)
  rw [← ho] at hpa
  have hpx : (at_ order place.toNat).toNat < ik.Strokes.length := by omega
  have hops := okI_all ok _ hpx
  have hbp := boxS_all hops
  unfold okBox at hbp
  refine fn_ok (fn := Try.f34) (nt := 40) Try.func34 rfl rfl rfl rfl (by simp [taggedL, tagged, tagI, tagStroke]) fun B hB => ?_
  refine aw_lens (x := .ptr false [slStroke false ik.Strokes]) 0 rfl (fun len_ik => ?_)
  simp [LenOK, LenL, cPoint, cStroke, fPoint, fStroke, slPoint, slStroke] at len_ik
  refine aw_lens (x := slI false order) 1 rfl (fun len_order => ?_)
  simp [LenOK, LenL, cI, fI, slI] at len_order
  refine aw_seq ?_
  refine aw_reg [] [0, 1, 2] [] [.ptr false [slStroke false ik.Strokes], slI false order, I place] [] [] (by kernel_rfl) hB trivial ?_
  refine ae_then ?_
  refine aw_seq ?_
  refine aw_reg [] [0, 1, 2, 7] [] [.ptr false [slStroke false ik.Strokes], slI false order, I place, I 0] [] [] (by kernel_rfl) hB trivial ?_
  refine ae_then ?_
  refine aw_seq ?_
  refine aw_seq ?_
  refine aw_reg [] [0, 1, 2, 7, 8] [] [.ptr false [slStroke false ik.Strokes], slI false order, I place, I 0, I 0] [] [] (by kernel_rfl) hB trivial ?_
  refine ae_then ?_
  refine aw_block ?_
  refine aw_loop (fun gn gσ => ∃ (right : Int) (k : Int), gn = (place - k).toNat ∧ (0 ≤ k ∧ k ≤ place) ∧ (right = rightI ik.Strokes order k.toNat) ∧ (0 ≤ right ∧ right ≤ 4095) ∧ gσ = mkS [(0, .ptr false [slStroke false ik.Strokes]), (1, slI false order), (2, I place), (7, I right), (8, I k)] []) ((place - 0).toNat) ⟨0, 0, rfl, (by omega), (by rfl), (by omega), rfl⟩ (fun gn gσ hI => ?_)
  obtain ⟨right, k, rfl, hi0, hr0, hrb, rfl⟩ := hI
  refine aw_seq ?_
  refine aw_seq ?_
  by_cases h1 : k < place
  ·have hz : 0 + k.toNat = k.toNat := Nat.zero_add _
   have hi : k.toNat < order.length := by omega
   have hoa := ordL_at (ss := ik.Strokes) (k := k.toNat) (by omega)
   rw [← ho] at hoa
   have hix : (at_ order k.toNat).toNat < ik.Strokes.length := by omega
   have hos := okI_all ok _ hix
   have hbo := boxS_all hos
   unfold okBox at hbo
   have hrs := rightI_succ (ss := ik.Strokes) (o := order) hi0.1
   rw [← hr0] at hrs
   refine aw_reg [(2, .dec true)] [0, 1, 2, 7, 8, 11] [] [.ptr false [slStroke false ik.Strokes], slI false order, I place, I right, I k, Bv true] [] [k < place] (by kernel_rfl) hB ⟨h1, trivial⟩ ?_
   refine ae_then ?_
   refine aw_true rfl ?_
   refine aw_skip ?_
   refine ae_then ?_
   refine aw_seq ?_
   refine aw_block ?_
   refine aw_reg [(10, .call [(true, .ptr false [slPoint false ((at_ ik.Strokes ((at_ order k.toNat).toNat)).Points)])] true (agBox (boxS (at_ ik.Strokes ((at_ order k.toNat).toNat)).Points (at_ ik.Strokes ((at_ order k.toNat).toNat)).Points.length))), (12, .call [(true, I right), (true, I ((boxS (at_ ik.Strokes ((at_ order k.toNat).toNat)).Points (at_ ik.Strokes ((at_ order k.toNat).toNat)).Points.length).X2))] true (I (max right ((boxS (at_ ik.Strokes ((at_ order k.toNat).toNat)).Points (at_ ik.Strokes ((at_ order k.toNat).toNat)).Points.length).X2))))] [0, 1, 2, 7, 8] [] [.ptr false [slStroke false ik.Strokes], slI false order, I place, I (max right ((boxS (at_ ik.Strokes ((at_ order k.toNat).toNat)).Points (at_ ik.Strokes ((at_ order k.toNat).toNat)).Points.length).X2)), I k] [] [(0 : Int) ≤ k ∧ k < (order.length : Int), (0 : Int) ≤ (at_ order k.toNat) ∧ (at_ order k.toNat) < (ik.Strokes.length : Int), Con Try.prog 48 [.ptr false [slPoint false ((at_ ik.Strokes ((at_ order k.toNat).toNat)).Points)]] true (agBox (boxS (at_ ik.Strokes ((at_ order k.toNat).toNat)).Points (at_ ik.Strokes ((at_ order k.toNat).toNat)).Points.length)) ∧ ((.ptr false [slPoint false ((at_ ik.Strokes ((at_ order k.toNat).toNat)).Points)] : AV) = .ptr false [slPoint false ((at_ ik.Strokes ((at_ order k.toNat).toNat)).Points)]) ∧ True, Con Try.prog 47 [I right, I ((boxS (at_ ik.Strokes ((at_ order k.toNat).toNat)).Points (at_ ik.Strokes ((at_ order k.toNat).toNat)).Points.length).X2)] true (I (max right ((boxS (at_ ik.Strokes ((at_ order k.toNat).toNat)).Points (at_ ik.Strokes ((at_ order k.toNat).toNat)).Points.length).X2))) ∧ ((I right : AV) = I right) ∧ ((I ((boxS (at_ ik.Strokes ((at_ order k.toNat).toNat)).Points (at_ ik.Strokes ((at_ order k.toNat).toNat)).Points.length).X2) : AV) = I ((boxS (at_ ik.Strokes ((at_ order k.toNat).toNat)).Points (at_ ik.Strokes ((at_ order k.toNat).toNat)).Points.length).X2)) ∧ True] (by kernel_rfl) hB ⟨⟨(by omega), (by omega)⟩, ⟨(by omega), (by omega)⟩, ⟨(l02BoxOf_ok (at_ ik.Strokes ((at_ order k.toNat).toNat)) (by first | assumption | exact okI_all ok _ (by omega))), rfl, trivial⟩, ⟨(l00Max_ok right ((boxS (at_ ik.Strokes ((at_ order k.toNat).toNat)).Points (at_ ik.Strokes ((at_ order k.toNat).toNat)).Points.length).X2)), rfl, rfl, trivial⟩, trivial⟩ ?_
   refine ae_block 1 ?_
   refine ae_then ?_
   refine aw_reg [] [0, 1, 2, 7, 8] [] [.ptr false [slStroke false ik.Strokes], slI false order, I place, I (max right ((boxS (at_ ik.Strokes ((at_ order k.toNat).toNat)).Points (at_ ik.Strokes ((at_ order k.toNat).toNat)).Points.length).X2)), I (k + 1)] [] [inR .i64 (k + 1)] (by kernel_rfl) hB ⟨(inR_i64 (by omega) (by omega)), trivial⟩ ?_
   exact ae_again _ (by omega) ⟨(max right ((boxS (at_ ik.Strokes ((at_ order k.toNat).toNat)).Points (at_ ik.Strokes ((at_ order k.toNat).toNat)).Points.length).X2)), (k + 1), rfl, (by omega), (by first | exact hrs.symm | (rw [hrs]; done) | (rw [← hrs, hz])), (by omega), rfl⟩
  ·have hie : k.toNat = place.toNat := by omega
   refine aw_reg [(2, .dec false)] [0, 1, 2, 7, 8, 11] [] [.ptr false [slStroke false ik.Strokes], slI false order, I place, I right, I k, Bv false] [] [¬ (k < place)] (by kernel_rfl) hB ⟨h1, trivial⟩ ?_
   refine ae_then ?_
   refine aw_false rfl ?_
   refine aw_exit ?_
   refine ae_exit_then ?_
   refine ae_exit_then ?_
   refine ae_exit_same ?_
   refine ae_then ?_
   refine aw_seq ?_
   refine aw_reg [(9, .call [(true, .ptr false [slPoint false ((at_ ik.Strokes ((at_ order place.toNat).toNat)).Points)])] true (agBox (boxS (at_ ik.Strokes ((at_ order place.toNat).toNat)).Points (at_ ik.Strokes ((at_ order place.toNat).toNat)).Points.length)))] [6] [] [I (((boxS (at_ ik.Strokes ((at_ order place.toNat).toNat)).Points (at_ ik.Strokes ((at_ order place.toNat).toNat)).Points.length).X1) - right)] [] [(0 : Int) ≤ place ∧ place < (order.length : Int), (0 : Int) ≤ (at_ order place.toNat) ∧ (at_ order place.toNat) < (ik.Strokes.length : Int), Con Try.prog 48 [.ptr false [slPoint false ((at_ ik.Strokes ((at_ order place.toNat).toNat)).Points)]] true (agBox (boxS (at_ ik.Strokes ((at_ order place.toNat).toNat)).Points (at_ ik.Strokes ((at_ order place.toNat).toNat)).Points.length)) ∧ ((.ptr false [slPoint false ((at_ ik.Strokes ((at_ order place.toNat).toNat)).Points)] : AV) = .ptr false [slPoint false ((at_ ik.Strokes ((at_ order place.toNat).toNat)).Points)]) ∧ True, inR .i64 (((boxS (at_ ik.Strokes ((at_ order place.toNat).toNat)).Points (at_ ik.Strokes ((at_ order place.toNat).toNat)).Points.length).X1) - right)] (by kernel_rfl) hB ⟨⟨(by omega), (by omega)⟩, ⟨(by omega), (by omega)⟩, ⟨(l02BoxOf_ok (at_ ik.Strokes ((at_ order place.toNat).toNat)) (by first | assumption | exact okI_all ok _ (by omega))), rfl, trivial⟩, (inR_i64 (by omega) (by omega)), trivial⟩ ?_
   refine ae_then ?_
   refine aw_ret ?_
   refine ae_ret hB (I (((boxS (at_ ik.Strokes ((at_ order place.toNat).toNat)).Points (at_ ik.Strokes ((at_ order place.toNat).toNat)).Points.length).X1) - right)) (by kernel_rfl) (.inl (by refine congrArg I ?_; rw [gapI, hr0, hie])) rfl (fun _ => trivial)


-- spec.GapAt
theorem specGapAt_ok (ik : Ink) (place : Int) (ok : okInk' ik = true) (hp : 1 ≤ place ∧ place < (ik.Strokes.length : Int)) : Con Try.prog 15 [.agg [slStroke false ik.Strokes], I place] true (.tup [I (gapI ik.Strokes (ordL ik.Strokes) place.toNat), I 0]) := by
  have hil := okI_len ok
  refine fn_ok (fn := Try.f15) (nt := 18) Try.func15 rfl rfl rfl rfl (by simp [taggedL, tagged, tagStroke]) fun B hB => ?_
  refine aw_lens (x := .agg [slStroke false ik.Strokes]) 0 rfl (fun len_ik => ?_)
  simp [LenOK, LenL, cPoint, cStroke, fPoint, fStroke, slPoint, slStroke] at len_ik
  refine aw_seq ?_
  refine aw_reg [(0, .new 2)] [1, 2] [2] [I place, .ref 2 0] [some (.box [slStroke false ik.Strokes])] [] (by kernel_rfl) hB trivial ?_
  refine ae_then ?_
  refine aw_seq ?_
  refine aw_seq ?_
  refine aw_reg [(0, .call [(false, .ptr false [slStroke false ik.Strokes])] true (Bv true))] [1, 2, 7] [2] [I place, .ref 2 0, Bv false] [some (.box [slStroke false ik.Strokes])] [Con Try.prog 32 [.ptr false [slStroke false ik.Strokes]] true (Bv true) ∧ ((false = true → true = true) ∧ AV.idsL [slStroke false ik.Strokes] = [] ∧ ((false = true → false = true) ∧ 1 = 1 ∧ ik.Strokes.length = ik.Strokes.length ∧ ∀ i, i < ik.Strokes.length → (fStroke false ik.Strokes) i = (fStroke false ik.Strokes) i ∨ (AV.idsL ((fStroke false ik.Strokes) i) = [] ∧ leL (fun _ => none) false ((fStroke false ik.Strokes) i) ((fStroke false ik.Strokes) i))) ∧ ([] : List AV) = []) ∧ True] (by kernel_rfl) hB ⟨⟨(con_bool ok (l02Ok_ok ik)), ⟨(fun h => by cases h), rfl, ⟨⟨(fun h => by cases h), rfl, rfl, fun i _ => .inl rfl⟩, rfl⟩⟩, trivial⟩, trivial⟩ ?_
  refine ae_then ?_
  refine aw_false rfl ?_
  refine aw_skip ?_
  refine ae_then ?_
  refine aw_seq ?_
  refine aw_seq ?_
  refine aw_reg [(5, .call [(true, I place), (true, I 1), (true, I ((ik.Strokes.length : Int) - 1))] true (Bv true))] [1, 2, 14] [2] [I place, .ref 2 0, Bv false] [some (.box [slStroke false ik.Strokes])] [inR .i64 ((ik.Strokes.length : Int) - 1), Con Try.prog 33 [I place, I 1, I ((ik.Strokes.length : Int) - 1)] true (Bv true) ∧ ((I place : AV) = I place) ∧ ((I 1 : AV) = I 1) ∧ ((I ((ik.Strokes.length : Int) - 1) : AV) = I ((ik.Strokes.length : Int) - 1)) ∧ True] (by kernel_rfl) hB ⟨(inR_i64 (by omega) (by omega)), ⟨(con_bool (inB_iff.2 (by omega)) (l00In_ok place 1 ((ik.Strokes.length : Int) - 1))), rfl, rfl, rfl, trivial⟩, trivial⟩ ?_
  refine ae_then ?_
  refine aw_false rfl ?_
  refine aw_skip ?_
  refine ae_then ?_
  refine aw_seq ?_
  refine aw_weak hB [] (T := [(1, I place), (2, .ptr true [slStroke false ik.Strokes]), (14, Bv false)]) (O := []) rfl (⟨.inl rfl, .inr ⟨(fun _ => rfl), rfl, ⟨⟨(fun h => by cases h), rfl, rfl, fun i _ => .inl rfl⟩, rfl⟩⟩, .inl rfl, trivial⟩) (trivial) ?_
  obtain ⟨order_1, hx1_0, hc1⟩ := l14Order_ok ik ok
  have holn : order_1.length = ik.Strokes.length := by rw [hx1_0, ordL_len]
  refine aw_reg [(0, .lend [] [(8311, .arr 1 order_1.length (fI order_1))] [(false, .ptr false [slStroke false ik.Strokes])] false (.arr 8311)), (2, .call [(false, .ptr false [slStroke false ik.Strokes]), (false, slI false order_1), (true, I place)] true (I (gapI ik.Strokes order_1 place.toNat)))] [4, 5] [] [I (gapI ik.Strokes order_1 place.toNat), I 0] [] [CallOK Try.prog 35 [.ptr false [slStroke false ik.Strokes]] (lookO []) false (.arr 8311) (lookO [(8311, .arr 1 order_1.length (fI order_1))]) ∧ ((false = true → true = true) ∧ AV.idsL [slStroke false ik.Strokes] = [] ∧ ((false = true → false = true) ∧ 1 = 1 ∧ ik.Strokes.length = ik.Strokes.length ∧ ∀ i, i < ik.Strokes.length → (fStroke false ik.Strokes) i = (fStroke false ik.Strokes) i ∨ (AV.idsL ((fStroke false ik.Strokes) i) = [] ∧ leL (fun _ => none) false ((fStroke false ik.Strokes) i) ((fStroke false ik.Strokes) i))) ∧ ([] : List AV) = []) ∧ True, Con Try.prog 34 [.ptr false [slStroke false ik.Strokes], slI false order_1, I place] true (I (gapI ik.Strokes order_1 place.toNat)) ∧ ((false = true → true = true) ∧ AV.idsL [slStroke false ik.Strokes] = [] ∧ ((false = true → false = true) ∧ 1 = 1 ∧ ik.Strokes.length = ik.Strokes.length ∧ ∀ i, i < ik.Strokes.length → (fStroke false ik.Strokes) i = (fStroke false ik.Strokes) i ∨ (AV.idsL ((fStroke false ik.Strokes) i) = [] ∧ leL (fun _ => none) false ((fStroke false ik.Strokes) i) ((fStroke false ik.Strokes) i))) ∧ ([] : List AV) = []) ∧ ((false = true → true = true) ∧ 1 = 1 ∧ order_1.length = order_1.length ∧ ∀ i, i < order_1.length → (fI order_1) i = (fI order_1) i ∨ (AV.idsL ((fI order_1) i) = [] ∧ leL (fun _ => none) false ((fI order_1) i) ((fI order_1) i))) ∧ ((I place : AV) = I place) ∧ True] (by kernel_rfl) hB ⟨⟨hc1, ⟨(fun h => by cases h), rfl, ⟨⟨(fun h => by cases h), rfl, rfl, fun i _ => .inl rfl⟩, rfl⟩⟩, trivial⟩, ⟨(l14Gap_ok ik order_1 place ok hx1_0 (by omega)), ⟨(fun h => by cases h), rfl, ⟨⟨(fun h => by cases h), rfl, rfl, fun i _ => .inl rfl⟩, rfl⟩⟩, ⟨(fun h => by cases h), rfl, rfl, fun i _ => .inl rfl⟩, rfl, trivial⟩, trivial⟩ ?_
  refine ae_then ?_
  refine aw_ret ?_
  refine ae_ret hB (.tup [I (gapI ik.Strokes order_1 place.toNat), I 0]) (by kernel_rfl) (.inl (by rw [hx1_0])) rfl (fun _ => (by simp [tagged, taggedL]))


theorem parts_end {ss : List Stroke} {gap : Int} {ls : List Group} {p i a : Int} (h : partsP ss gap ls p) (hp : 0 ≤ p) (hi : i = (ls.length : Int)) (ha : a = (if i = 0 then 0 else (at_ ls (i - 1).toNat).To)) : a = p := by
  subst hi
  by_cases e : ls.length = 0
  · rw [if_pos (by omega)] at ha
    by_cases q : p = 0
    · omega
    · have := (h.2.1 (by omega)).1; omega
  · rw [if_neg (by omega), show ((ls.length : Int) - 1).toNat = ls.length - 1 from by omega] at ha
    by_cases q : p = 0
    · rw [h.1 q] at e; simp at e
    · rw [ha]; exact (h.2.1 (by omega)).2
theorem parts_from {ss : List Stroke} {gap : Int} {ls : List Group} {p i a : Int} (h : partsP ss gap ls p) (h0 : 0 ≤ i) (hi : i.toNat < ls.length) (ha : a = (if i = 0 then 0 else (at_ ls (i - 1).toNat).To)) : (at_ ls i.toNat).From = a := by
  rw [(h.2.2 i.toNat hi).1.1, ha]
  by_cases e : i = 0
  · subst e; rfl
  · rw [if_neg e, if_neg (by omega), show (i - 1).toNat = i.toNat - 1 from by omega]

-- laws.FnGroups
theorem fnGroups_con (code : List Int) (more : List Int) (ok_code : ∀ y ∈ code, inR .u8 y) (ok_more : ∀ y ∈ more, inR .u8 y) : Con Try.prog 3 [slU8 false code, slU8 false more] true (Bv true) := by
  refine fn_ok (fn := Try.f3) (nt := 197) Try.func3 rfl rfl rfl rfl (by simp [taggedL, tagged, tagU8]) fun B hB => ?_
  refine aw_lens (x := slU8 false code) 0 rfl (fun len_code => ?_)
  simp [LenOK, LenL, cU8, fU8, slU8] at len_code
  refine aw_lens (x := slU8 false more) 1 rfl (fun len_more => ?_)
  simp [LenOK, LenL, cU8, fU8, slU8] at len_more
  refine aw_seq ?_
  refine aw_reg [] [0, 1] [] [slU8 false code, slU8 false more] [] [] (by kernel_rfl) hB trivial ?_
  refine ae_then ?_
  refine aw_seq ?_
  refine aw_seq ?_
  rcases Bool.eq_false_or_eq_true (decide (3000 < (code.length : Int) ∨ 3000 < (more.length : Int))) with h1 | h1
  ·refine aw_reg [(2, .call [(true, slU8 false code), (true, slU8 false more)] true (Bv true))] [0, 1, 24] [] [slU8 false code, slU8 false more, Bv true] [] [Con Try.prog 4 [slU8 false code, slU8 false more] true (Bv true) ∧ ((slU8 false code : AV) = slU8 false code) ∧ ((slU8 false more : AV) = slU8 false more) ∧ True] (by kernel_rfl) hB ⟨⟨(con_bool h1 (a2Long_ok code more)), rfl, rfl, trivial⟩, trivial⟩ ?_
   refine ae_then ?_
   refine aw_true rfl ?_
   refine aw_seq ?_
   refine aw_reg [] [4] [] [Bv true] [] [] (by kernel_rfl) hB trivial ?_
   refine ae_then ?_
   refine aw_ret ?_
   refine ae_ret_then ?_
   refine ae_ret hB (Bv true) (by kernel_rfl) (.inl rfl) rfl (fun _ => trivial)
  ·have hc : (∀ j, j < code.length → 0 ≤ at_ code j ∧ at_ code j ≤ 255) ∧ code.length ≤ 4611686018427387904 := ⟨fun j hj => ok_code _ (at_mem hj), by first | omega | (simp at h1; omega)⟩
   have hmore : (∀ j, j < more.length → 0 ≤ at_ more j ∧ at_ more j ≤ 255) ∧ more.length ≤ 4611686018427387904 := ⟨fun j hj => ok_more _ (at_mem hj), by first | omega | (simp at h1; omega)⟩
   refine aw_reg [(2, .call [(true, slU8 false code), (true, slU8 false more)] true (Bv false))] [0, 1, 24] [] [slU8 false code, slU8 false more, Bv false] [] [Con Try.prog 4 [slU8 false code, slU8 false more] true (Bv false) ∧ ((slU8 false code : AV) = slU8 false code) ∧ ((slU8 false more : AV) = slU8 false more) ∧ True] (by kernel_rfl) hB ⟨⟨(con_bool h1 (a2Long_ok code more)), rfl, rfl, trivial⟩, trivial⟩ ?_
   refine ae_then ?_
   refine aw_false rfl ?_
   refine aw_skip ?_
   refine ae_then ?_
   refine aw_seq ?_
   obtain ⟨ik_1, hx1_0, hx1_1, hc1⟩ := A2Ink_ok code (by assumption)
   have hok := hx1_0
   have hxl := hx1_1
   have hK0 := a2At_bd more 0 (n := 200) (by decide)
   refine aw_reg [(1, .call [(true, slU8 false code)] true (.agg [slStroke true ik_1.Strokes])), (2, .new 5)] [1, 5] [5] [slU8 false more, .ref 5 0] [some (.box [slStroke true ik_1.Strokes])] [Con Try.prog 5 [slU8 false code] true (.agg [slStroke true ik_1.Strokes]) ∧ ((slU8 false code : AV) = slU8 false code) ∧ True] (by kernel_rfl) hB ⟨⟨hc1, rfl, trivial⟩, trivial⟩ ?_
   refine ae_then ?_
   refine aw_seq ?_
   refine aw_reg [] [1, 5, 6] [5] [slU8 false more, .ref 5 0, I (ik_1.Strokes.length : Int)] [some (.box [slStroke true ik_1.Strokes])] [] (by kernel_rfl) hB trivial ?_
   refine ae_then ?_
   refine aw_seq ?_
   obtain ⟨order_2, hx2_0, hc2⟩ := OrderOf_ok ik_1 hok
   have hol : order_2.length = ik_1.Strokes.length := by rw [hx2_0, ordL_len]
   refine aw_reg [(1, .lend [] [(8301, .arr 1 order_2.length (fI order_2))] [(false, .agg [slStroke false ik_1.Strokes])] false (.tup [.arr 8301, I 0]))] [1, 5, 6, 7, 8] [5, 8301] [slU8 false more, .ref 5 0, I (ik_1.Strokes.length : Int), .arr 8301, I 0] [some (.box [slStroke true ik_1.Strokes]), some (.arr 1 order_2.length (fI order_2))] [CallOK Try.prog 6 [.agg [slStroke false ik_1.Strokes]] (lookO []) false (.tup [.arr 8301, I 0]) (lookO [(8301, .arr 1 order_2.length (fI order_2))]) ∧ (((false = true → true = true) ∧ 1 = 1 ∧ ik_1.Strokes.length = ik_1.Strokes.length ∧ ∀ i, i < ik_1.Strokes.length → (fStroke true ik_1.Strokes) i = (fStroke false ik_1.Strokes) i ∨ (AV.idsL ((fStroke false ik_1.Strokes) i) = [] ∧ leL (fun _ => none) false ((fStroke true ik_1.Strokes) i) ((fStroke false ik_1.Strokes) i))) ∧ ([] : List AV) = []) ∧ True] (by kernel_rfl) hB ⟨⟨hc2, ⟨⟨(fun h => by cases h), rfl, rfl, fun i _ => .inr ⟨idsStroke _ _, leStroke _ _ _⟩⟩, rfl⟩, trivial⟩, trivial⟩ ?_
   refine ae_then ?_
   refine aw_seq ?_
   refine aw_seq ?_
   refine aw_reg [(1, .dec false), (6, .dec false)] [1, 5, 6, 7, 42] [5, 8301] [slU8 false more, .ref 5 0, I (ik_1.Strokes.length : Int), .arr 8301, Bv false] [some (.box [slStroke true ik_1.Strokes]), some (.arr 1 order_2.length (fI order_2))] [¬ ((0 : Int) ≠ 0), ¬ ((order_2.length : Int) ≠ (ik_1.Strokes.length : Int))] (by kernel_rfl) hB ⟨(fun hq => hq (by decide)), (fun hq => hq (by omega)), trivial⟩ ?_
   refine ae_then ?_
   refine aw_false rfl ?_
   refine aw_skip ?_
   refine ae_then ?_
   refine aw_seq ?_
   refine aw_seq ?_
   refine aw_reg [] [1, 5, 6, 7, 9] [5, 8301] [slU8 false more, .ref 5 0, I (ik_1.Strokes.length : Int), .arr 8301, I 0] [some (.box [slStroke true ik_1.Strokes]), some (.arr 1 order_2.length (fI order_2))] [] (by kernel_rfl) hB trivial ?_
   refine ae_then ?_
   refine aw_block ?_
   refine aw_weak hB [] (T := [(1, slU8 false more), (5, .ref 5 0), (6, I (ik_1.Strokes.length : Int)), (7, slI true order_2), (9, I 0)]) (O := [(5, .box [slStroke true ik_1.Strokes])]) rfl (⟨.inl rfl, .inl rfl, .inl rfl, .inr ⟨(fun _ => rfl), rfl, rfl, fun i _ => .inl rfl⟩, .inl rfl, trivial⟩) (⟨.inl rfl, trivial⟩) ?_
   refine aw_loop (fun gn gσ => ∃ (k : Int), gn = ((ik_1.Strokes.length : Int) - k).toNat ∧ (0 ≤ k ∧ (k ≤ (ik_1.Strokes.length : Int) ∨ k = 0)) ∧ gσ = mkS [(1, slU8 false more), (5, .ref 5 0), (6, I (ik_1.Strokes.length : Int)), (7, slI true order_2), (9, I k)] [(5, .box [slStroke true ik_1.Strokes])]) (((ik_1.Strokes.length : Int) - 0).toNat) ⟨0, rfl, (by omega), rfl⟩ (fun gn gσ hI => ?_)
   obtain ⟨k, rfl, hk0, rfl⟩ := hI
   refine aw_seq ?_
   refine aw_seq ?_
   by_cases h2 : k < (ik_1.Strokes.length : Int)
   ·have hk : k.toNat < ik_1.Strokes.length := by omega
    have hkk : ((k.toNat : Nat) : Int) = k := by omega
    have hhb := homeI_bd ik_1.Strokes k.toNat
    have hmem : k ∈ order_2 := by rw [hx2_0]; exact ordL_mem.2 (by omega)
    have hsk := okI_all hok _ hk
    refine aw_reg [(2, .dec true)] [1, 5, 6, 7, 9, 45] [5] [slU8 false more, .ref 5 0, I (ik_1.Strokes.length : Int), slI true order_2, I k, Bv true] [some (.box [slStroke true ik_1.Strokes])] [k < (ik_1.Strokes.length : Int)] (by kernel_rfl) hB ⟨h2, trivial⟩ ?_
    refine ae_then ?_
    refine aw_true rfl ?_
    refine aw_skip ?_
    refine ae_then ?_
    refine aw_seq ?_
    refine aw_block ?_
    refine aw_seq ?_
    refine aw_reg [(2, .call [(false, .agg [slStroke false ik_1.Strokes]), (true, I k)] true (.tup [I (homeI ik_1.Strokes k.toNat), I 0]))] [1, 5, 6, 7, 9, 10, 11] [5] [slU8 false more, .ref 5 0, I (ik_1.Strokes.length : Int), slI true order_2, I k, I (homeI ik_1.Strokes k.toNat), I 0] [some (.box [slStroke true ik_1.Strokes])] [Con Try.prog 7 [.agg [slStroke false ik_1.Strokes], I k] true (.tup [I (homeI ik_1.Strokes k.toNat), I 0]) ∧ (((false = true → true = true) ∧ 1 = 1 ∧ ik_1.Strokes.length = ik_1.Strokes.length ∧ ∀ i, i < ik_1.Strokes.length → (fStroke true ik_1.Strokes) i = (fStroke false ik_1.Strokes) i ∨ (AV.idsL ((fStroke false ik_1.Strokes) i) = [] ∧ leL (fun _ => none) false ((fStroke true ik_1.Strokes) i) ((fStroke false ik_1.Strokes) i))) ∧ ([] : List AV) = []) ∧ ((I k : AV) = I k) ∧ True] (by kernel_rfl) hB ⟨⟨(HomeOf_ok ik_1 k hok (by omega)), ⟨⟨(fun h => by cases h), rfl, rfl, fun i _ => .inr ⟨idsStroke _ _, leStroke _ _ _⟩⟩, rfl⟩, rfl, trivial⟩, trivial⟩ ?_
    refine ae_then ?_
    refine aw_seq ?_
    by_cases h3 : 0 ≤ (homeI ik_1.Strokes k.toNat)
    ·have hhd := homeI_dot h3
     have hhl : (homeI ik_1.Strokes k.toNat).toNat < ik_1.Strokes.length := by omega
     have hsh := okI_all hok _ hhl
     refine aw_reg [(2, .call [(false, slI false order_2), (true, I k)] true (Bv true)), (6, .dec false), (11, .dec false), (15, .dec true), (22, .call [(false, .agg [slPoint false ((at_ ik_1.Strokes k.toNat).Points)])] true (Bv true)), (30, .call [(false, .agg [slPoint false ((at_ ik_1.Strokes ((homeI ik_1.Strokes k.toNat).toNat)).Points)])] true (Bv false)), (36, .dec false)] [1, 5, 6, 7, 9, 91] [5] [slU8 false more, .ref 5 0, I (ik_1.Strokes.length : Int), slI true order_2, I k, Bv false] [some (.box [slStroke true ik_1.Strokes])] [Con Try.prog 8 [slI false order_2, I k] true (Bv true) ∧ ((false = true → true = true) ∧ 1 = 1 ∧ order_2.length = order_2.length ∧ ∀ i, i < order_2.length → (fI order_2) i = (fI order_2) i ∨ (AV.idsL ((fI order_2) i) = [] ∧ leL (fun _ => none) false ((fI order_2) i) ((fI order_2) i))) ∧ ((I k : AV) = I k) ∧ True, ¬ ((0 : Int) ≠ 0), ¬ (k ≤ (homeI ik_1.Strokes k.toNat)), 0 ≤ (homeI ik_1.Strokes k.toNat), (0 : Int) ≤ k ∧ k < (ik_1.Strokes.length : Int), Con Try.prog 9 [.agg [slPoint false ((at_ ik_1.Strokes k.toNat).Points)]] true (Bv true) ∧ (((false = true → true = true) ∧ 3 = 3 ∧ (((at_ ik_1.Strokes k.toNat).Points).length) = (((at_ ik_1.Strokes k.toNat).Points).length) ∧ ∀ i, i < (((at_ ik_1.Strokes k.toNat).Points).length) → (fPoint ((at_ ik_1.Strokes k.toNat).Points)) i = (fPoint ((at_ ik_1.Strokes k.toNat).Points)) i ∨ (AV.idsL ((fPoint ((at_ ik_1.Strokes k.toNat).Points)) i) = [] ∧ leL (fun _ => none) false ((fPoint ((at_ ik_1.Strokes k.toNat).Points)) i) ((fPoint ((at_ ik_1.Strokes k.toNat).Points)) i))) ∧ ([] : List AV) = []) ∧ True, (0 : Int) ≤ (homeI ik_1.Strokes k.toNat) ∧ (homeI ik_1.Strokes k.toNat) < (ik_1.Strokes.length : Int), Con Try.prog 9 [.agg [slPoint false ((at_ ik_1.Strokes ((homeI ik_1.Strokes k.toNat).toNat)).Points)]] true (Bv false) ∧ (((false = true → true = true) ∧ 3 = 3 ∧ (((at_ ik_1.Strokes ((homeI ik_1.Strokes k.toNat).toNat)).Points).length) = (((at_ ik_1.Strokes ((homeI ik_1.Strokes k.toNat).toNat)).Points).length) ∧ ∀ i, i < (((at_ ik_1.Strokes ((homeI ik_1.Strokes k.toNat).toNat)).Points).length) → (fPoint ((at_ ik_1.Strokes ((homeI ik_1.Strokes k.toNat).toNat)).Points)) i = (fPoint ((at_ ik_1.Strokes ((homeI ik_1.Strokes k.toNat).toNat)).Points)) i ∨ (AV.idsL ((fPoint ((at_ ik_1.Strokes ((homeI ik_1.Strokes k.toNat).toNat)).Points)) i) = [] ∧ leL (fun _ => none) false ((fPoint ((at_ ik_1.Strokes ((homeI ik_1.Strokes k.toNat).toNat)).Points)) i) ((fPoint ((at_ ik_1.Strokes ((homeI ik_1.Strokes k.toNat).toNat)).Points)) i))) ∧ ([] : List AV) = []) ∧ True, ¬ ((homeI ik_1.Strokes k.toNat) < (-1))] (by kernel_rfl) hB ⟨⟨(con_bool (decide_eq_true hmem) (a2Has_ok order_2 k (by omega))), ⟨(fun h => by cases h), rfl, rfl, fun i _ => .inl rfl⟩, rfl, trivial⟩, (fun hq => hq (by decide)), (by omega), h3, ⟨(by omega), (by omega)⟩, ⟨(con_bool (by simp [hsk, hhd.1.1]) (IsDot_ok (at_ ik_1.Strokes k.toNat))), ⟨⟨(fun h => by cases h), rfl, rfl, fun i _ => .inl rfl⟩, rfl⟩, trivial⟩, ⟨(by omega), (by omega)⟩, ⟨(con_bool (by simp [hhd.2.1]) (IsDot_ok (at_ ik_1.Strokes ((homeI ik_1.Strokes k.toNat).toNat)))), ⟨⟨(fun h => by cases h), rfl, rfl, fun i _ => .inl rfl⟩, rfl⟩, trivial⟩, (by omega), trivial⟩ ?_
     refine ae_then ?_
     refine aw_false rfl ?_
     refine aw_skip ?_
     refine ae_block 1 ?_
     refine ae_then ?_
     refine aw_reg [] [1, 5, 6, 7, 9] [5] [slU8 false more, .ref 5 0, I (ik_1.Strokes.length : Int), slI true order_2, I (k + 1)] [some (.box [slStroke true ik_1.Strokes])] [inR .i64 (k + 1)] (by kernel_rfl) hB ⟨(inR_i64 (by omega) (by omega)), trivial⟩ ?_
     exact ae_again _ (by omega) ⟨(k + 1), rfl, (by omega), rfl⟩
    ·refine aw_reg [(2, .call [(false, slI false order_2), (true, I k)] true (Bv true)), (6, .dec false), (11, .dec false), (15, .dec false), (36, .dec false)] [1, 5, 6, 7, 9, 91] [5] [slU8 false more, .ref 5 0, I (ik_1.Strokes.length : Int), slI true order_2, I k, Bv false] [some (.box [slStroke true ik_1.Strokes])] [Con Try.prog 8 [slI false order_2, I k] true (Bv true) ∧ ((false = true → true = true) ∧ 1 = 1 ∧ order_2.length = order_2.length ∧ ∀ i, i < order_2.length → (fI order_2) i = (fI order_2) i ∨ (AV.idsL ((fI order_2) i) = [] ∧ leL (fun _ => none) false ((fI order_2) i) ((fI order_2) i))) ∧ ((I k : AV) = I k) ∧ True, ¬ ((0 : Int) ≠ 0), ¬ (k ≤ (homeI ik_1.Strokes k.toNat)), ¬ (0 ≤ (homeI ik_1.Strokes k.toNat)), ¬ ((homeI ik_1.Strokes k.toNat) < (-1))] (by kernel_rfl) hB ⟨⟨(con_bool (decide_eq_true hmem) (a2Has_ok order_2 k (by omega))), ⟨(fun h => by cases h), rfl, rfl, fun i _ => .inl rfl⟩, rfl, trivial⟩, (fun hq => hq (by decide)), (by omega), h3, (by omega), trivial⟩ ?_
     refine ae_then ?_
     refine aw_false rfl ?_
     refine aw_skip ?_
     refine ae_block 1 ?_
     refine ae_then ?_
     refine aw_reg [] [1, 5, 6, 7, 9] [5] [slU8 false more, .ref 5 0, I (ik_1.Strokes.length : Int), slI true order_2, I (k + 1)] [some (.box [slStroke true ik_1.Strokes])] [inR .i64 (k + 1)] (by kernel_rfl) hB ⟨(inR_i64 (by omega) (by omega)), trivial⟩ ?_
     exact ae_again _ (by omega) ⟨(k + 1), rfl, (by omega), rfl⟩
   ·have hke : k = (ik_1.Strokes.length : Int) := by omega
    refine aw_reg [(2, .dec false)] [1, 5, 6, 7, 9, 45] [5] [slU8 false more, .ref 5 0, I (ik_1.Strokes.length : Int), slI true order_2, I k, Bv false] [some (.box [slStroke true ik_1.Strokes])] [¬ (k < (ik_1.Strokes.length : Int))] (by kernel_rfl) hB ⟨h2, trivial⟩ ?_
    refine ae_then ?_
    refine aw_false rfl ?_
    refine aw_exit ?_
    refine ae_exit_then ?_
    refine ae_exit_then ?_
    refine ae_exit_same ?_
    refine ae_then ?_
    refine aw_seq ?_
    refine aw_seq ?_
    by_cases h4 : 0 < (ik_1.Strokes.length : Int)
    ·refine aw_reg [(1, .dec true)] [1, 5, 6, 93] [5] [slU8 false more, .ref 5 0, I (ik_1.Strokes.length : Int), Bv true] [some (.box [slStroke true ik_1.Strokes])] [0 < (ik_1.Strokes.length : Int)] (by kernel_rfl) hB ⟨h4, trivial⟩ ?_
     refine ae_then ?_
     refine aw_true rfl ?_
     refine aw_seq ?_
     obtain ⟨v_3, c_3, hx3_0, hc3⟩ := InkOfGroup_ok ik_1 (Group.mk 0 (ik_1.Strokes.length : Int)) hok ⟨⟨rfl, rfl⟩, by omega⟩
     refine aw_reg [(3, .call [(false, .agg [slStroke false ik_1.Strokes]), (true, .agg [I 0, I (ik_1.Strokes.length : Int)])] true (.tup [.agg [slStroke true v_3.Strokes], I c_3])), (7, .new 12)] [1, 5, 6, 12, 13] [5, 12] [slU8 false more, .ref 5 0, I (ik_1.Strokes.length : Int), .ref 12 0, I c_3] [some (.box [slStroke true ik_1.Strokes]), some (.box [slStroke true v_3.Strokes])] [Con Try.prog 10 [.agg [slStroke false ik_1.Strokes], .agg [I 0, I (ik_1.Strokes.length : Int)]] true (.tup [.agg [slStroke true v_3.Strokes], I c_3]) ∧ (((false = true → true = true) ∧ 1 = 1 ∧ ik_1.Strokes.length = ik_1.Strokes.length ∧ ∀ i, i < ik_1.Strokes.length → (fStroke true ik_1.Strokes) i = (fStroke false ik_1.Strokes) i ∨ (AV.idsL ((fStroke false ik_1.Strokes) i) = [] ∧ leL (fun _ => none) false ((fStroke true ik_1.Strokes) i) ((fStroke false ik_1.Strokes) i))) ∧ ([] : List AV) = []) ∧ ((.agg [I 0, I (ik_1.Strokes.length : Int)] : AV) = .agg [I 0, I (ik_1.Strokes.length : Int)]) ∧ True] (by kernel_rfl) hB ⟨⟨hc3, ⟨⟨(fun h => by cases h), rfl, rfl, fun i _ => .inr ⟨idsStroke _ _, leStroke _ _ _⟩⟩, rfl⟩, rfl, trivial⟩, trivial⟩ ?_
     refine ae_then ?_
     refine aw_seq ?_
     refine aw_reg [(1, .dec false), (5, .call [(false, .agg [slStroke false v_3.Strokes]), (false, .agg [slStroke false ik_1.Strokes])] true (Bv true))] [1, 5, 6, 108] [5] [slU8 false more, .ref 5 0, I (ik_1.Strokes.length : Int), Bv false] [some (.box [slStroke true ik_1.Strokes])] [¬ (c_3 ≠ 0), Con Try.prog 11 [.agg [slStroke false v_3.Strokes], .agg [slStroke false ik_1.Strokes]] true (Bv true) ∧ (((false = true → true = true) ∧ 1 = 1 ∧ v_3.Strokes.length = v_3.Strokes.length ∧ ∀ i, i < v_3.Strokes.length → (fStroke true v_3.Strokes) i = (fStroke false v_3.Strokes) i ∨ (AV.idsL ((fStroke false v_3.Strokes) i) = [] ∧ leL (fun _ => none) false ((fStroke true v_3.Strokes) i) ((fStroke false v_3.Strokes) i))) ∧ ([] : List AV) = []) ∧ (((false = true → true = true) ∧ 1 = 1 ∧ ik_1.Strokes.length = ik_1.Strokes.length ∧ ∀ i, i < ik_1.Strokes.length → (fStroke true ik_1.Strokes) i = (fStroke false ik_1.Strokes) i ∨ (AV.idsL ((fStroke false ik_1.Strokes) i) = [] ∧ leL (fun _ => none) false ((fStroke true ik_1.Strokes) i) ((fStroke false ik_1.Strokes) i))) ∧ ([] : List AV) = []) ∧ True] (by kernel_rfl) hB ⟨(fun hq => hq (hx3_0).2), ⟨(con_bool (sameI_of (hx3_0).1) (specSameInk_ok v_3 ik_1)), ⟨⟨(fun h => by cases h), rfl, rfl, fun i _ => .inr ⟨idsStroke _ _, leStroke _ _ _⟩⟩, rfl⟩, ⟨⟨(fun h => by cases h), rfl, rfl, fun i _ => .inr ⟨idsStroke _ _, leStroke _ _ _⟩⟩, rfl⟩, trivial⟩, trivial⟩ ?_
     refine ae_then ?_
     refine aw_false rfl ?_
     refine aw_skip ?_
     refine ae_then ?_
     refine aw_seq ?_
     obtain ⟨ls_4, c_4, hx4_0, hx4_1, hc4⟩ := GroupsOf_ok ik_1 hok
     have hgl := hx4_0
     refine aw_reg [(1, .call [(false, .agg [slStroke false ik_1.Strokes])] true (.tup [slGroup true ls_4, I c_4]))] [1, 5, 6, 14, 15] [5] [slU8 false more, .ref 5 0, I (ik_1.Strokes.length : Int), slGroup true ls_4, I c_4] [some (.box [slStroke true ik_1.Strokes])] [Con Try.prog 12 [.agg [slStroke false ik_1.Strokes]] true (.tup [slGroup true ls_4, I c_4]) ∧ (((false = true → true = true) ∧ 1 = 1 ∧ ik_1.Strokes.length = ik_1.Strokes.length ∧ ∀ i, i < ik_1.Strokes.length → (fStroke true ik_1.Strokes) i = (fStroke false ik_1.Strokes) i ∨ (AV.idsL ((fStroke false ik_1.Strokes) i) = [] ∧ leL (fun _ => none) false ((fStroke true ik_1.Strokes) i) ((fStroke false ik_1.Strokes) i))) ∧ ([] : List AV) = []) ∧ True] (by kernel_rfl) hB ⟨⟨hc4, ⟨⟨(fun h => by cases h), rfl, rfl, fun i _ => .inr ⟨idsStroke _ _, leStroke _ _ _⟩⟩, rfl⟩, trivial⟩, trivial⟩ ?_
     refine ae_then ?_
     refine aw_seq ?_
     obtain ⟨ls_5, c_5, hx5_0, hx5_1, hx5_2, hc5⟩ := SplitByGaps_ok ik_1 ((a2AtI more 0 200) - 50) hok (by omega)
     have hpt := hx5_0
     have hpl := hx5_2
     refine aw_reg [(2, .call [(true, slU8 false more), (true, I 0), (true, I 200)] true (I (a2AtI more 0 200))), (4, .call [(false, .agg [slStroke false ik_1.Strokes]), (true, I ((a2AtI more 0 200) - 50))] true (.tup [slGroup true ls_5, I c_5]))] [1, 5, 6, 14, 15, 16, 17] [5] [slU8 false more, .ref 5 0, I (ik_1.Strokes.length : Int), slGroup true ls_4, I c_4, slGroup true ls_5, I c_5] [some (.box [slStroke true ik_1.Strokes])] [Con Try.prog 14 [slU8 false more, I 0, I 200] true (I (a2AtI more 0 200)) ∧ ((slU8 false more : AV) = slU8 false more) ∧ ((I 0 : AV) = I 0) ∧ ((I 200 : AV) = I 200) ∧ True, inR .i64 ((a2AtI more 0 200) - 50), Con Try.prog 13 [.agg [slStroke false ik_1.Strokes], I ((a2AtI more 0 200) - 50)] true (.tup [slGroup true ls_5, I c_5]) ∧ (((false = true → true = true) ∧ 1 = 1 ∧ ik_1.Strokes.length = ik_1.Strokes.length ∧ ∀ i, i < ik_1.Strokes.length → (fStroke true ik_1.Strokes) i = (fStroke false ik_1.Strokes) i ∨ (AV.idsL ((fStroke false ik_1.Strokes) i) = [] ∧ leL (fun _ => none) false ((fStroke true ik_1.Strokes) i) ((fStroke false ik_1.Strokes) i))) ∧ ([] : List AV) = []) ∧ ((I ((a2AtI more 0 200) - 50) : AV) = I ((a2AtI more 0 200) - 50)) ∧ True] (by kernel_rfl) hB ⟨⟨(a2At_ok more 0 200 hmore.1 (by omega)), rfl, rfl, rfl, trivial⟩, (inR_i64 (by omega) (by omega)), ⟨hc5, ⟨⟨(fun h => by cases h), rfl, rfl, fun i _ => .inr ⟨idsStroke _ _, leStroke _ _ _⟩⟩, rfl⟩, rfl, trivial⟩, trivial⟩ ?_
     refine ae_then ?_
     refine aw_seq ?_
     refine aw_seq ?_
     refine aw_reg [(1, .dec false), (4, .dec false), (10, .dec false), (17, .dec false)] [1, 5, 6, 16, 140] [5] [slU8 false more, .ref 5 0, I (ik_1.Strokes.length : Int), slGroup true ls_5, Bv false] [some (.box [slStroke true ik_1.Strokes])] [¬ (c_4 ≠ 0), ¬ (c_5 ≠ 0), ¬ ((ls_4.length : Int) < (ik_1.Strokes.length : Int)), inR .i64 (3 * (ik_1.Strokes.length : Int)), ¬ ((3 * (ik_1.Strokes.length : Int)) < (ls_4.length : Int))] (by kernel_rfl) hB ⟨(fun hq => hq hx4_1), (fun hq => hq hx5_1), (by omega), (inR_i64 (by omega) (by omega)), (by omega), trivial⟩ ?_
     refine ae_then ?_
     refine aw_false rfl ?_
     refine aw_skip ?_
     refine ae_then ?_
     refine aw_seq ?_
     refine aw_reg [] [1, 5, 6, 16, 18] [5] [slU8 false more, .ref 5 0, I (ik_1.Strokes.length : Int), slGroup true ls_5, I 0] [some (.box [slStroke true ik_1.Strokes])] [] (by kernel_rfl) hB trivial ?_
     refine ae_then ?_
     refine aw_seq ?_
     refine aw_seq ?_
     refine aw_reg [] [1, 5, 6, 16, 18, 19] [5] [slU8 false more, .ref 5 0, I (ik_1.Strokes.length : Int), slGroup true ls_5, I 0, I 0] [some (.box [slStroke true ik_1.Strokes])] [] (by kernel_rfl) hB trivial ?_
     refine ae_then ?_
     refine aw_block ?_
     refine aw_loop (fun gn gσ => ∃ (at_1 : Int) (i : Int), gn = ((ls_5.length : Int) - i).toNat ∧ (0 ≤ i ∧ i ≤ (ls_5.length : Int)) ∧ (at_1 = (if i = 0 then 0 else (at_ ls_5 (i - 1).toNat).To)) ∧ gσ = mkS [(1, slU8 false more), (5, .ref 5 0), (6, I (ik_1.Strokes.length : Int)), (16, slGroup true ls_5), (18, I at_1), (19, I i)] [(5, .box [slStroke true ik_1.Strokes])]) (((ls_5.length : Int) - 0).toNat) ⟨0, 0, rfl, (by omega), (by rfl), rfl⟩ (fun gn gσ hI => ?_)
     obtain ⟨at_1, i, rfl, hi0, ha0, rfl⟩ := hI
     refine aw_seq ?_
     refine aw_seq ?_
     by_cases h5 : i < (ls_5.length : Int)
     ·have hi : i.toNat < ls_5.length := by omega
      have hpi := hpt.2.2 i.toNat hi
      have hij := parts_from hpt hi0.1 hi ha0
      refine aw_reg [(3, .dec true)] [1, 5, 6, 16, 18, 19, 144] [5] [slU8 false more, .ref 5 0, I (ik_1.Strokes.length : Int), slGroup true ls_5, I at_1, I i, Bv true] [some (.box [slStroke true ik_1.Strokes])] [i < (ls_5.length : Int)] (by kernel_rfl) hB ⟨h5, trivial⟩ ?_
      refine ae_then ?_
      refine aw_true rfl ?_
      refine aw_skip ?_
      refine ae_then ?_
      refine aw_seq ?_
      refine aw_block ?_
      refine aw_seq ?_
      refine aw_seq ?_
      refine aw_reg [(6, .dec false), (14, .dec false), (23, .dec false)] [1, 5, 6, 16, 18, 19, 171] [5] [slU8 false more, .ref 5 0, I (ik_1.Strokes.length : Int), slGroup true ls_5, I at_1, I i, Bv false] [some (.box [slStroke true ik_1.Strokes])] [(0 : Int) ≤ i ∧ i < (ls_5.length : Int), ¬ (((at_ ls_5 i.toNat).From) ≠ at_1), (0 : Int) ≤ i ∧ i < (ls_5.length : Int), ¬ (((at_ ls_5 i.toNat).To) ≤ at_1), (0 : Int) ≤ i ∧ i < (ls_5.length : Int), ¬ ((ik_1.Strokes.length : Int) < ((at_ ls_5 i.toNat).To))] (by kernel_rfl) hB ⟨⟨(by omega), (by omega)⟩, (fun hq => hq hij), ⟨(by omega), (by omega)⟩, (by omega), ⟨(by omega), (by omega)⟩, (by omega), trivial⟩ ?_
      refine ae_then ?_
      refine aw_false rfl ?_
      refine aw_skip ?_
      refine ae_then ?_
      refine aw_seq ?_
      refine aw_seq ?_
      by_cases h6 : 0 < i
      ·have hpj := hpi.2 (by omega)
       rw [hij] at hpj
       refine aw_reg [(1, .dec true)] [1, 5, 6, 16, 18, 19, 173] [5] [slU8 false more, .ref 5 0, I (ik_1.Strokes.length : Int), slGroup true ls_5, I at_1, I i, Bv true] [some (.box [slStroke true ik_1.Strokes])] [0 < i] (by kernel_rfl) hB ⟨h6, trivial⟩ ?_
       refine ae_then ?_
       refine aw_true rfl ?_
       refine aw_seq ?_
       refine aw_reg [(2, .call [(false, .agg [slStroke false ik_1.Strokes]), (true, I at_1)] true (.tup [I (gapI ik_1.Strokes (ordL ik_1.Strokes) at_1.toNat), I 0]))] [1, 5, 6, 16, 19, 20, 21] [5] [slU8 false more, .ref 5 0, I (ik_1.Strokes.length : Int), slGroup true ls_5, I i, I (gapI ik_1.Strokes (ordL ik_1.Strokes) at_1.toNat), I 0] [some (.box [slStroke true ik_1.Strokes])] [Con Try.prog 15 [.agg [slStroke false ik_1.Strokes], I at_1] true (.tup [I (gapI ik_1.Strokes (ordL ik_1.Strokes) at_1.toNat), I 0]) ∧ (((false = true → true = true) ∧ 1 = 1 ∧ ik_1.Strokes.length = ik_1.Strokes.length ∧ ∀ i, i < ik_1.Strokes.length → (fStroke true ik_1.Strokes) i = (fStroke false ik_1.Strokes) i ∨ (AV.idsL ((fStroke false ik_1.Strokes) i) = [] ∧ leL (fun _ => none) false ((fStroke true ik_1.Strokes) i) ((fStroke false ik_1.Strokes) i))) ∧ ([] : List AV) = []) ∧ ((I at_1 : AV) = I at_1) ∧ True] (by kernel_rfl) hB ⟨⟨(specGapAt_ok ik_1 at_1 hok (by omega)), ⟨⟨(fun h => by cases h), rfl, rfl, fun i _ => .inr ⟨idsStroke _ _, leStroke _ _ _⟩⟩, rfl⟩, rfl, trivial⟩, trivial⟩ ?_
       refine ae_then ?_
       refine aw_seq ?_
       refine aw_reg [(1, .dec false), (5, .call [(true, slU8 false more), (true, I 0), (true, I 200)] true (I (a2AtI more 0 200))), (7, .dec false)] [1, 5, 6, 16, 19, 188] [5] [slU8 false more, .ref 5 0, I (ik_1.Strokes.length : Int), slGroup true ls_5, I i, Bv false] [some (.box [slStroke true ik_1.Strokes])] [¬ ((0 : Int) ≠ 0), Con Try.prog 14 [slU8 false more, I 0, I 200] true (I (a2AtI more 0 200)) ∧ ((slU8 false more : AV) = slU8 false more) ∧ ((I 0 : AV) = I 0) ∧ ((I 200 : AV) = I 200) ∧ True, inR .i64 ((a2AtI more 0 200) - 50), ¬ ((gapI ik_1.Strokes (ordL ik_1.Strokes) at_1.toNat) < ((a2AtI more 0 200) - 50))] (by kernel_rfl) hB ⟨(fun hq => hq (by decide)), ⟨(a2At_ok more 0 200 hmore.1 (by omega)), rfl, rfl, rfl, trivial⟩, (inR_i64 (by omega) (by omega)), (by omega), trivial⟩ ?_
       refine ae_then ?_
       refine aw_false rfl ?_
       refine aw_skip ?_
       refine ae_then ?_
       refine aw_reg [] [1, 5, 6, 16, 18, 19] [5] [slU8 false more, .ref 5 0, I (ik_1.Strokes.length : Int), slGroup true ls_5, I ((at_ ls_5 i.toNat).To), I i] [some (.box [slStroke true ik_1.Strokes])] [(0 : Int) ≤ i ∧ i < (ls_5.length : Int)] (by kernel_rfl) hB ⟨⟨(by omega), (by omega)⟩, trivial⟩ ?_
       refine ae_block 3 ?_
       refine ae_then ?_
       refine aw_reg [] [1, 5, 6, 16, 18, 19] [5] [slU8 false more, .ref 5 0, I (ik_1.Strokes.length : Int), slGroup true ls_5, I ((at_ ls_5 i.toNat).To), I (i + 1)] [some (.box [slStroke true ik_1.Strokes])] [inR .i64 (i + 1)] (by kernel_rfl) hB ⟨(inR_i64 (by omega) (by omega)), trivial⟩ ?_
       exact ae_again _ (by omega) ⟨(at_ ls_5 i.toNat).To, (i + 1), rfl, (by omega), (by rw [if_neg (by omega), show i + 1 - 1 = i from by omega]), rfl⟩
      ·refine aw_reg [(1, .dec false)] [1, 5, 6, 16, 18, 19, 173] [5] [slU8 false more, .ref 5 0, I (ik_1.Strokes.length : Int), slGroup true ls_5, I at_1, I i, Bv false] [some (.box [slStroke true ik_1.Strokes])] [¬ (0 < i)] (by kernel_rfl) hB ⟨h6, trivial⟩ ?_
       refine ae_then ?_
       refine aw_false rfl ?_
       refine aw_skip ?_
       refine ae_then ?_
       refine aw_reg [] [1, 5, 6, 16, 18, 19] [5] [slU8 false more, .ref 5 0, I (ik_1.Strokes.length : Int), slGroup true ls_5, I ((at_ ls_5 i.toNat).To), I i] [some (.box [slStroke true ik_1.Strokes])] [(0 : Int) ≤ i ∧ i < (ls_5.length : Int)] (by kernel_rfl) hB ⟨⟨(by omega), (by omega)⟩, trivial⟩ ?_
       refine ae_block 3 ?_
       refine ae_then ?_
       refine aw_reg [] [1, 5, 6, 16, 18, 19] [5] [slU8 false more, .ref 5 0, I (ik_1.Strokes.length : Int), slGroup true ls_5, I ((at_ ls_5 i.toNat).To), I (i + 1)] [some (.box [slStroke true ik_1.Strokes])] [inR .i64 (i + 1)] (by kernel_rfl) hB ⟨(inR_i64 (by omega) (by omega)), trivial⟩ ?_
       exact ae_again _ (by omega) ⟨(at_ ls_5 i.toNat).To, (i + 1), rfl, (by omega), (by rw [if_neg (by omega), show i + 1 - 1 = i from by omega]), rfl⟩
     ·have hend := parts_end hpt (by omega) (by omega) ha0
      refine aw_reg [(3, .dec false)] [1, 5, 6, 16, 18, 19, 144] [5] [slU8 false more, .ref 5 0, I (ik_1.Strokes.length : Int), slGroup true ls_5, I at_1, I i, Bv false] [some (.box [slStroke true ik_1.Strokes])] [¬ (i < (ls_5.length : Int))] (by kernel_rfl) hB ⟨h5, trivial⟩ ?_
      refine ae_then ?_
      refine aw_false rfl ?_
      refine aw_exit ?_
      refine ae_exit_then ?_
      refine ae_exit_then ?_
      refine ae_exit_same ?_
      refine ae_then ?_
      refine aw_seq ?_
      refine aw_reg [] [4] [] [Bv (decide (at_1 = (ik_1.Strokes.length : Int)))] [] [] (by kernel_rfl) hB trivial ?_
      refine ae_then ?_
      refine aw_ret ?_
      refine ae_ret hB (Bv (decide (at_1 = (ik_1.Strokes.length : Int)))) (by kernel_rfl) (.inl (by first | rfl | (simp [hend]; done))) rfl (fun _ => trivial)
    ·refine aw_reg [(1, .dec false)] [1, 5, 6, 93] [5] [slU8 false more, .ref 5 0, I (ik_1.Strokes.length : Int), Bv false] [some (.box [slStroke true ik_1.Strokes])] [¬ (0 < (ik_1.Strokes.length : Int))] (by kernel_rfl) hB ⟨h4, trivial⟩ ?_
     refine ae_then ?_
     refine aw_false rfl ?_
     refine aw_skip ?_
     refine ae_then ?_
     refine aw_seq ?_
     obtain ⟨ls_6, c_6, hx6_0, hx6_1, hc6⟩ := GroupsOf_ok ik_1 hok
     have hgl := hx6_0
     refine aw_reg [(1, .call [(false, .agg [slStroke false ik_1.Strokes])] true (.tup [slGroup true ls_6, I c_6]))] [1, 5, 6, 14, 15] [5] [slU8 false more, .ref 5 0, I (ik_1.Strokes.length : Int), slGroup true ls_6, I c_6] [some (.box [slStroke true ik_1.Strokes])] [Con Try.prog 12 [.agg [slStroke false ik_1.Strokes]] true (.tup [slGroup true ls_6, I c_6]) ∧ (((false = true → true = true) ∧ 1 = 1 ∧ ik_1.Strokes.length = ik_1.Strokes.length ∧ ∀ i, i < ik_1.Strokes.length → (fStroke true ik_1.Strokes) i = (fStroke false ik_1.Strokes) i ∨ (AV.idsL ((fStroke false ik_1.Strokes) i) = [] ∧ leL (fun _ => none) false ((fStroke true ik_1.Strokes) i) ((fStroke false ik_1.Strokes) i))) ∧ ([] : List AV) = []) ∧ True] (by kernel_rfl) hB ⟨⟨hc6, ⟨⟨(fun h => by cases h), rfl, rfl, fun i _ => .inr ⟨idsStroke _ _, leStroke _ _ _⟩⟩, rfl⟩, trivial⟩, trivial⟩ ?_
     refine ae_then ?_
     refine aw_seq ?_
     obtain ⟨ls_7, c_7, hx7_0, hx7_1, hx7_2, hc7⟩ := SplitByGaps_ok ik_1 ((a2AtI more 0 200) - 50) hok (by omega)
     have hpt := hx7_0
     have hpl := hx7_2
     refine aw_reg [(2, .call [(true, slU8 false more), (true, I 0), (true, I 200)] true (I (a2AtI more 0 200))), (4, .call [(false, .agg [slStroke false ik_1.Strokes]), (true, I ((a2AtI more 0 200) - 50))] true (.tup [slGroup true ls_7, I c_7]))] [1, 5, 6, 14, 15, 16, 17] [5] [slU8 false more, .ref 5 0, I (ik_1.Strokes.length : Int), slGroup true ls_6, I c_6, slGroup true ls_7, I c_7] [some (.box [slStroke true ik_1.Strokes])] [Con Try.prog 14 [slU8 false more, I 0, I 200] true (I (a2AtI more 0 200)) ∧ ((slU8 false more : AV) = slU8 false more) ∧ ((I 0 : AV) = I 0) ∧ ((I 200 : AV) = I 200) ∧ True, inR .i64 ((a2AtI more 0 200) - 50), Con Try.prog 13 [.agg [slStroke false ik_1.Strokes], I ((a2AtI more 0 200) - 50)] true (.tup [slGroup true ls_7, I c_7]) ∧ (((false = true → true = true) ∧ 1 = 1 ∧ ik_1.Strokes.length = ik_1.Strokes.length ∧ ∀ i, i < ik_1.Strokes.length → (fStroke true ik_1.Strokes) i = (fStroke false ik_1.Strokes) i ∨ (AV.idsL ((fStroke false ik_1.Strokes) i) = [] ∧ leL (fun _ => none) false ((fStroke true ik_1.Strokes) i) ((fStroke false ik_1.Strokes) i))) ∧ ([] : List AV) = []) ∧ ((I ((a2AtI more 0 200) - 50) : AV) = I ((a2AtI more 0 200) - 50)) ∧ True] (by kernel_rfl) hB ⟨⟨(a2At_ok more 0 200 hmore.1 (by omega)), rfl, rfl, rfl, trivial⟩, (inR_i64 (by omega) (by omega)), ⟨hc7, ⟨⟨(fun h => by cases h), rfl, rfl, fun i _ => .inr ⟨idsStroke _ _, leStroke _ _ _⟩⟩, rfl⟩, rfl, trivial⟩, trivial⟩ ?_
     refine ae_then ?_
     refine aw_seq ?_
     refine aw_seq ?_
     refine aw_reg [(1, .dec false), (4, .dec false), (10, .dec false), (17, .dec false)] [1, 5, 6, 16, 140] [5] [slU8 false more, .ref 5 0, I (ik_1.Strokes.length : Int), slGroup true ls_7, Bv false] [some (.box [slStroke true ik_1.Strokes])] [¬ (c_6 ≠ 0), ¬ (c_7 ≠ 0), ¬ ((ls_6.length : Int) < (ik_1.Strokes.length : Int)), inR .i64 (3 * (ik_1.Strokes.length : Int)), ¬ ((3 * (ik_1.Strokes.length : Int)) < (ls_6.length : Int))] (by kernel_rfl) hB ⟨(fun hq => hq hx6_1), (fun hq => hq hx7_1), (by omega), (inR_i64 (by omega) (by omega)), (by omega), trivial⟩ ?_
     refine ae_then ?_
     refine aw_false rfl ?_
     refine aw_skip ?_
     refine ae_then ?_
     refine aw_seq ?_
     refine aw_reg [] [1, 5, 6, 16, 18] [5] [slU8 false more, .ref 5 0, I (ik_1.Strokes.length : Int), slGroup true ls_7, I 0] [some (.box [slStroke true ik_1.Strokes])] [] (by kernel_rfl) hB trivial ?_
     refine ae_then ?_
     refine aw_seq ?_
     refine aw_seq ?_
     refine aw_reg [] [1, 5, 6, 16, 18, 19] [5] [slU8 false more, .ref 5 0, I (ik_1.Strokes.length : Int), slGroup true ls_7, I 0, I 0] [some (.box [slStroke true ik_1.Strokes])] [] (by kernel_rfl) hB trivial ?_
     refine ae_then ?_
     refine aw_block ?_
     refine aw_loop (fun gn gσ => ∃ (at_1 : Int) (i : Int), gn = ((ls_7.length : Int) - i).toNat ∧ (0 ≤ i ∧ i ≤ (ls_7.length : Int)) ∧ (at_1 = (if i = 0 then 0 else (at_ ls_7 (i - 1).toNat).To)) ∧ gσ = mkS [(1, slU8 false more), (5, .ref 5 0), (6, I (ik_1.Strokes.length : Int)), (16, slGroup true ls_7), (18, I at_1), (19, I i)] [(5, .box [slStroke true ik_1.Strokes])]) (((ls_7.length : Int) - 0).toNat) ⟨0, 0, rfl, (by omega), (by rfl), rfl⟩ (fun gn gσ hI => ?_)
     obtain ⟨at_1, i, rfl, hi0, ha0, rfl⟩ := hI
     refine aw_seq ?_
     refine aw_seq ?_
     by_cases h7 : i < (ls_7.length : Int)
     ·have hi : i.toNat < ls_7.length := by omega
      have hpi := hpt.2.2 i.toNat hi
      have hij := parts_from hpt hi0.1 hi ha0
      refine aw_reg [(3, .dec true)] [1, 5, 6, 16, 18, 19, 144] [5] [slU8 false more, .ref 5 0, I (ik_1.Strokes.length : Int), slGroup true ls_7, I at_1, I i, Bv true] [some (.box [slStroke true ik_1.Strokes])] [i < (ls_7.length : Int)] (by kernel_rfl) hB ⟨h7, trivial⟩ ?_
      refine ae_then ?_
      refine aw_true rfl ?_
      refine aw_skip ?_
      refine ae_then ?_
      refine aw_seq ?_
      refine aw_block ?_
      refine aw_seq ?_
      refine aw_seq ?_
      refine aw_reg [(6, .dec false), (14, .dec false), (23, .dec false)] [1, 5, 6, 16, 18, 19, 171] [5] [slU8 false more, .ref 5 0, I (ik_1.Strokes.length : Int), slGroup true ls_7, I at_1, I i, Bv false] [some (.box [slStroke true ik_1.Strokes])] [(0 : Int) ≤ i ∧ i < (ls_7.length : Int), ¬ (((at_ ls_7 i.toNat).From) ≠ at_1), (0 : Int) ≤ i ∧ i < (ls_7.length : Int), ¬ (((at_ ls_7 i.toNat).To) ≤ at_1), (0 : Int) ≤ i ∧ i < (ls_7.length : Int), ¬ ((ik_1.Strokes.length : Int) < ((at_ ls_7 i.toNat).To))] (by kernel_rfl) hB ⟨⟨(by omega), (by omega)⟩, (fun hq => hq hij), ⟨(by omega), (by omega)⟩, (by omega), ⟨(by omega), (by omega)⟩, (by omega), trivial⟩ ?_
      refine ae_then ?_
      refine aw_false rfl ?_
      refine aw_skip ?_
      refine ae_then ?_
      refine aw_seq ?_
      refine aw_seq ?_
      by_cases h8 : 0 < i
      ·have hpj := hpi.2 (by omega)
       rw [hij] at hpj
       refine aw_reg [(1, .dec true)] [1, 5, 6, 16, 18, 19, 173] [5] [slU8 false more, .ref 5 0, I (ik_1.Strokes.length : Int), slGroup true ls_7, I at_1, I i, Bv true] [some (.box [slStroke true ik_1.Strokes])] [0 < i] (by kernel_rfl) hB ⟨h8, trivial⟩ ?_
       refine ae_then ?_
       refine aw_true rfl ?_
       refine aw_seq ?_
       refine aw_reg [(2, .call [(false, .agg [slStroke false ik_1.Strokes]), (true, I at_1)] true (.tup [I (gapI ik_1.Strokes (ordL ik_1.Strokes) at_1.toNat), I 0]))] [1, 5, 6, 16, 19, 20, 21] [5] [slU8 false more, .ref 5 0, I (ik_1.Strokes.length : Int), slGroup true ls_7, I i, I (gapI ik_1.Strokes (ordL ik_1.Strokes) at_1.toNat), I 0] [some (.box [slStroke true ik_1.Strokes])] [Con Try.prog 15 [.agg [slStroke false ik_1.Strokes], I at_1] true (.tup [I (gapI ik_1.Strokes (ordL ik_1.Strokes) at_1.toNat), I 0]) ∧ (((false = true → true = true) ∧ 1 = 1 ∧ ik_1.Strokes.length = ik_1.Strokes.length ∧ ∀ i, i < ik_1.Strokes.length → (fStroke true ik_1.Strokes) i = (fStroke false ik_1.Strokes) i ∨ (AV.idsL ((fStroke false ik_1.Strokes) i) = [] ∧ leL (fun _ => none) false ((fStroke true ik_1.Strokes) i) ((fStroke false ik_1.Strokes) i))) ∧ ([] : List AV) = []) ∧ ((I at_1 : AV) = I at_1) ∧ True] (by kernel_rfl) hB ⟨⟨(specGapAt_ok ik_1 at_1 hok (by omega)), ⟨⟨(fun h => by cases h), rfl, rfl, fun i _ => .inr ⟨idsStroke _ _, leStroke _ _ _⟩⟩, rfl⟩, rfl, trivial⟩, trivial⟩ ?_
       refine ae_then ?_
       refine aw_seq ?_
       refine aw_reg [(1, .dec false), (5, .call [(true, slU8 false more), (true, I 0), (true, I 200)] true (I (a2AtI more 0 200))), (7, .dec false)] [1, 5, 6, 16, 19, 188] [5] [slU8 false more, .ref 5 0, I (ik_1.Strokes.length : Int), slGroup true ls_7, I i, Bv false] [some (.box [slStroke true ik_1.Strokes])] [¬ ((0 : Int) ≠ 0), Con Try.prog 14 [slU8 false more, I 0, I 200] true (I (a2AtI more 0 200)) ∧ ((slU8 false more : AV) = slU8 false more) ∧ ((I 0 : AV) = I 0) ∧ ((I 200 : AV) = I 200) ∧ True, inR .i64 ((a2AtI more 0 200) - 50), ¬ ((gapI ik_1.Strokes (ordL ik_1.Strokes) at_1.toNat) < ((a2AtI more 0 200) - 50))] (by kernel_rfl) hB ⟨(fun hq => hq (by decide)), ⟨(a2At_ok more 0 200 hmore.1 (by omega)), rfl, rfl, rfl, trivial⟩, (inR_i64 (by omega) (by omega)), (by omega), trivial⟩ ?_
       refine ae_then ?_
       refine aw_false rfl ?_
       refine aw_skip ?_
       refine ae_then ?_
       refine aw_reg [] [1, 5, 6, 16, 18, 19] [5] [slU8 false more, .ref 5 0, I (ik_1.Strokes.length : Int), slGroup true ls_7, I ((at_ ls_7 i.toNat).To), I i] [some (.box [slStroke true ik_1.Strokes])] [(0 : Int) ≤ i ∧ i < (ls_7.length : Int)] (by kernel_rfl) hB ⟨⟨(by omega), (by omega)⟩, trivial⟩ ?_
       refine ae_block 3 ?_
       refine ae_then ?_
       refine aw_reg [] [1, 5, 6, 16, 18, 19] [5] [slU8 false more, .ref 5 0, I (ik_1.Strokes.length : Int), slGroup true ls_7, I ((at_ ls_7 i.toNat).To), I (i + 1)] [some (.box [slStroke true ik_1.Strokes])] [inR .i64 (i + 1)] (by kernel_rfl) hB ⟨(inR_i64 (by omega) (by omega)), trivial⟩ ?_
       exact ae_again _ (by omega) ⟨(at_ ls_7 i.toNat).To, (i + 1), rfl, (by omega), (by rw [if_neg (by omega), show i + 1 - 1 = i from by omega]), rfl⟩
      ·refine aw_reg [(1, .dec false)] [1, 5, 6, 16, 18, 19, 173] [5] [slU8 false more, .ref 5 0, I (ik_1.Strokes.length : Int), slGroup true ls_7, I at_1, I i, Bv false] [some (.box [slStroke true ik_1.Strokes])] [¬ (0 < i)] (by kernel_rfl) hB ⟨h8, trivial⟩ ?_
       refine ae_then ?_
       refine aw_false rfl ?_
       refine aw_skip ?_
       refine ae_then ?_
       refine aw_reg [] [1, 5, 6, 16, 18, 19] [5] [slU8 false more, .ref 5 0, I (ik_1.Strokes.length : Int), slGroup true ls_7, I ((at_ ls_7 i.toNat).To), I i] [some (.box [slStroke true ik_1.Strokes])] [(0 : Int) ≤ i ∧ i < (ls_7.length : Int)] (by kernel_rfl) hB ⟨⟨(by omega), (by omega)⟩, trivial⟩ ?_
       refine ae_block 3 ?_
       refine ae_then ?_
       refine aw_reg [] [1, 5, 6, 16, 18, 19] [5] [slU8 false more, .ref 5 0, I (ik_1.Strokes.length : Int), slGroup true ls_7, I ((at_ ls_7 i.toNat).To), I (i + 1)] [some (.box [slStroke true ik_1.Strokes])] [inR .i64 (i + 1)] (by kernel_rfl) hB ⟨(inR_i64 (by omega) (by omega)), trivial⟩ ?_
       exact ae_again _ (by omega) ⟨(at_ ls_7 i.toNat).To, (i + 1), rfl, (by omega), (by rw [if_neg (by omega), show i + 1 - 1 = i from by omega]), rfl⟩
     ·have hend := parts_end hpt (by omega) (by omega) ha0
      refine aw_reg [(3, .dec false)] [1, 5, 6, 16, 18, 19, 144] [5] [slU8 false more, .ref 5 0, I (ik_1.Strokes.length : Int), slGroup true ls_7, I at_1, I i, Bv false] [some (.box [slStroke true ik_1.Strokes])] [¬ (i < (ls_7.length : Int))] (by kernel_rfl) hB ⟨h7, trivial⟩ ?_
      refine ae_then ?_
      refine aw_false rfl ?_
      refine aw_exit ?_
      refine ae_exit_then ?_
      refine ae_exit_then ?_
      refine ae_exit_same ?_
      refine ae_then ?_
      refine aw_seq ?_
      refine aw_reg [] [4] [] [Bv (decide (at_1 = (ik_1.Strokes.length : Int)))] [] [] (by kernel_rfl) hB trivial ?_
      refine ae_then ?_
      refine aw_ret ?_
      refine ae_ret hB (Bv (decide (at_1 = (ik_1.Strokes.length : Int)))) (by kernel_rfl) (.inl (by first | rfl | (simp [hend]; done))) rfl (fun _ => trivial)


/-! ### the row -/

theorem opens_t22 : OpensA Try.prog 22 (cLU8 false) (fun xs => ∀ y ∈ xs, inR .u8 y) :=
  opensA_slice (c := cU8) (sz := 1) Try.underlying22 (by kernel_rfl) (by decide) (fun x => ⟨rfl, by simp [oneA, cU8]⟩) (opensA_int Try.underlying5)

namespace fnGroups
set_option maxRecDepth 100000 in
theorem lifted (os : Os) (started : os.Started) (H : Type) (enc : TypeId × Value → H) :
    ReturnsInHanded {} Try.checked os 3 .any (Rows.fnGroupsSpec.pre6 enc Try.prog Try.f3 Rows.fnGroupsRow.domain false) (Rows.fnGroupsSpec.post enc Try.prog Try.f3 false true false false) := by
  refine returnsInHanded_of_change_shaped (C := Try.checked) Try.own started (by kernel_rfl) Try.func3
    (ChangeSpec.witness6 (enc := enc) (C := Try.checked) false ⟨#[], #[.slice none 0 0, .slice none 0 0], []⟩ 8 (by kernel_rfl) (by kernel_rfl) (by kernel_rfl) (by kernel_rfl)) ?_
  intro W base args ds gs before hval0 hW hcnd hsz hshp _
  have hW' := hW
  obtain ⟨p, q, hA0, hV, rfl, hfz, hnd⟩ := hW
  have hval : ∀ (j : Nat) t v, Try.f3.params[j]? = some t → args[j]? = some v → Value.okWide Try.prog W .any base t v := hval0
  have hA : DataW.TrodAll enc Try.prog W 0 (fun _ => true) true Try.f3.params.toList args.toList ds p := hA0
  rw [Try.params3] at hA hval
  obtain ⟨v0, vs0, d0, ds0, p0, q0, hargs, rfl, rfl, h0, r0⟩ := trodAll_cons hA
  obtain ⟨v1, vs1, d1, ds1, p1, q1, rfl, rfl, rfl, h1, r1⟩ := trodAll_cons r0
  obtain ⟨rfl, rfl, rfl⟩ := trodAll_nil r1
  obtain rfl : args = #[v0, v1] := args_eq hargs
  obtain ⟨rfl, rfl⟩ := trodVars_none hV
  obtain ⟨fuel0, hf0⟩ := h0
  obtain ⟨A0, l0, c0, rfl⟩ := okWide_slice Try.underlying22 (hval 0 22 v0 rfl rfl)
  obtain ⟨x0, rx0, ok0⟩ := (opens_t22) enc W 0 _ _ _ _ _ hf0
  obtain ⟨fuel1, hf1⟩ := h1
  obtain ⟨A1, l1, c1, rfl⟩ := okWide_slice Try.underlying22 (hval 1 22 v1 rfl rfl)
  obtain ⟨x1, rx1, ok1⟩ := (opens_t22) enc W 0 _ _ _ _ _ hf1
  refine (walk_of0 (fnGroups_con x0 x1 ok0 ok1) (fun w _ => WX_free w) (RelTL.cons (relTL_one rx0) (RelTL.cons (relTL_one rx1) RelTL.nil))).mono fun e W1 ⟨he, hb⟩ => ?_
  subst he
  exact ⟨_, rfl, law_post Try.laidOut rfl Try.underlying4 (of_decide_eq_true (by kernel_rfl)) rfl hW' hb rfl⟩

theorem over : Rows.fnGroupsRow.holds Try.pinned (OpenSpec.ofChange Rows.fnGroupsSpec) :=
  OpenClaim.holds_of_wide 3 Try.f3 rfl rfl rfl rfl rfl rfl rfl ⟨rfl, rfl, rfl, rfl, rfl⟩ rfl rfl rfl rfl rfl (by kernel_rfl) Try.func3 (by kernel_rfl)
    (of_decide_eq_true (by kernel_rfl)) (by unfold Func.isWrapper; first | (rw [if_pos (by decide +kernel)]; kernel_rfl) | (rw [if_neg (by decide +kernel)]; exact ⟨rfl, rfl⟩))
    (fun os started H enc _ => lifted os started H enc)

theorem proved : Rows.FnGroupsSaid :=
  over
#print axioms proved
end fnGroups
end Go.Proofs.Ytglpfinmioppcaa.Ax
