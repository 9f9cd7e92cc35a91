/- The statement FnExactGestureOf: contracts of what it reaches, and its proof. No conditions. -/
import Derived.Test.YtmnboneljjijmaaAxEGestureOf1
namespace Go.Proofs.Ytmnboneljjijmaa.Ax
open Go.RowKit Go.ChangeShapes Go.WideShapes
set_option linter.unusedVariables false
set_option linter.unusedSimpArgs false


-- impl.directionOf
theorem directionOf_ok (dx : Int) (dy : Int) (hd : (-4095 ≤ dx ∧ dx ≤ 4095) ∧ -4095 ≤ dy ∧ dy ≤ 4095) : Con Try.prog 164 [I dx, I dy] true (I (dirI dx dy)) := by
  have hx2 := two_sq (x := (dx.natAbs : Int)) (by omega) (by omega)
  have hy2 := two_sq (x := (dy.natAbs : Int)) (by omega) (by omega)
  have hs2 := sq_bd (x := (dx.natAbs : Int) + (dy.natAbs : Int)) (B := 8190) (by omega) (by omega)
  have hz := @dir_zero dx dy
  refine fn_ok (fn := Try.f164) (nt := 68) Try.func164 rfl rfl rfl rfl (by simp [taggedL, tagged]) fun B hB => ?_
  refine aw_seq ?_
  refine aw_reg [] [0, 1] [] [I dx, I dy] [] [] (by kernel_rfl) hB trivial ?_
  refine ae_then ?_
  refine aw_seq ?_
  refine aw_reg [(1, .call [(true, I dx)] true (I (dx.natAbs : Int))), (3, .call [(true, I dy)] true (I (dy.natAbs : Int)))] [0, 1, 5, 6] [] [I dx, I dy, I (dx.natAbs : Int), I (dy.natAbs : Int)] [] [Con Try.prog 57 [I dx] true (I (dx.natAbs : Int)) ∧ ((I dx : AV) = I dx) ∧ True, Con Try.prog 57 [I dy] true (I (dy.natAbs : Int)) ∧ ((I dy : AV) = I dy) ∧ True] (by kernel_rfl) hB ⟨⟨(abs_ok dx (by omega)), rfl, trivial⟩, ⟨(abs_ok dy (by omega)), rfl, trivial⟩, trivial⟩ ?_
  refine ae_then ?_
  refine aw_seq ?_
  refine aw_reg [] [0, 1, 5, 6, 7] [] [I dx, I dy, I (dx.natAbs : Int), I (dy.natAbs : Int), I (((dx.natAbs : Int) + (dy.natAbs : Int)) * ((dx.natAbs : Int) + (dy.natAbs : Int)))] [] [inR .i64 ((dx.natAbs : Int) + (dy.natAbs : Int)), inR .i64 ((dx.natAbs : Int) + (dy.natAbs : Int)), inR .i64 (((dx.natAbs : Int) + (dy.natAbs : Int)) * ((dx.natAbs : Int) + (dy.natAbs : Int)))] (by kernel_rfl) hB ⟨(inR_i64 (by omega) (by omega)), (inR_i64 (by omega) (by omega)), (inR_i64 (by omega) (by omega)), trivial⟩ ?_
  refine ae_then ?_
  refine aw_seq ?_
  refine aw_block ?_
  refine aw_seq ?_
  by_cases h1 : (((dx.natAbs : Int) + (dy.natAbs : Int)) * ((dx.natAbs : Int) + (dy.natAbs : Int))) ≤ ((2 * (dx.natAbs : Int)) * (dx.natAbs : Int))
  · by_cases h2 : 0 < dx
    · refine aw_reg [(5, .dec true), (8, .dec true)] [0, 1, 5, 6, 7, 19] [] [I dx, I dy, I (dx.natAbs : Int), I (dy.natAbs : Int), I (((dx.natAbs : Int) + (dy.natAbs : Int)) * ((dx.natAbs : Int) + (dy.natAbs : Int))), Bv true] [] [inR .i64 (2 * (dx.natAbs : Int)), inR .i64 ((2 * (dx.natAbs : Int)) * (dx.natAbs : Int)), (((dx.natAbs : Int) + (dy.natAbs : Int)) * ((dx.natAbs : Int) + (dy.natAbs : Int))) ≤ ((2 * (dx.natAbs : Int)) * (dx.natAbs : Int)), 0 < dx] (by kernel_rfl) hB ⟨(inR_i64 (by omega) (by omega)), (inR_i64 (by omega) (by omega)), h1, h2, trivial⟩ ?_
      refine ae_then ?_
      refine aw_true rfl ?_
      refine aw_seq ?_
      refine aw_reg [] [4] [] [I 0] [] [] (by kernel_rfl) hB trivial ?_
      refine ae_then ?_
      refine aw_ret ?_
      refine ae_ret_block (ae_ret_then ?_)
      refine ae_ret hB (I 0) (by kernel_rfl) (.inl (by refine congrArg I ?_; unfold dirI; (repeat' split) <;> first | rfl | omega)) rfl (fun _ => trivial)
    · refine aw_reg [(5, .dec true), (8, .dec false)] [0, 1, 5, 6, 7, 19] [] [I dx, I dy, I (dx.natAbs : Int), I (dy.natAbs : Int), I (((dx.natAbs : Int) + (dy.natAbs : Int)) * ((dx.natAbs : Int) + (dy.natAbs : Int))), Bv false] [] [inR .i64 (2 * (dx.natAbs : Int)), inR .i64 ((2 * (dx.natAbs : Int)) * (dx.natAbs : Int)), (((dx.natAbs : Int) + (dy.natAbs : Int)) * ((dx.natAbs : Int) + (dy.natAbs : Int))) ≤ ((2 * (dx.natAbs : Int)) * (dx.natAbs : Int)), ¬ (0 < dx)] (by kernel_rfl) hB ⟨(inR_i64 (by omega) (by omega)), (inR_i64 (by omega) (by omega)), h1, h2, trivial⟩ ?_
      refine ae_then ?_
      refine aw_false rfl ?_
      refine aw_seq ?_
      refine aw_reg [(5, .dec true)] [0, 1, 6, 7, 30] [] [I dx, I dy, I (dy.natAbs : Int), I (((dx.natAbs : Int) + (dy.natAbs : Int)) * ((dx.natAbs : Int) + (dy.natAbs : Int))), Bv true] [] [inR .i64 (2 * (dx.natAbs : Int)), inR .i64 ((2 * (dx.natAbs : Int)) * (dx.natAbs : Int)), (((dx.natAbs : Int) + (dy.natAbs : Int)) * ((dx.natAbs : Int) + (dy.natAbs : Int))) ≤ ((2 * (dx.natAbs : Int)) * (dx.natAbs : Int))] (by kernel_rfl) hB ⟨(inR_i64 (by omega) (by omega)), (inR_i64 (by omega) (by omega)), h1, trivial⟩ ?_
      refine ae_then ?_
      refine aw_true rfl ?_
      refine aw_seq ?_
      refine aw_reg [] [4] [] [I 4] [] [] (by kernel_rfl) hB trivial ?_
      refine ae_then ?_
      refine aw_ret ?_
      refine ae_ret_block (ae_ret_then ?_)
      refine ae_ret hB (I 4) (by kernel_rfl) (.inl (by refine congrArg I ?_; unfold dirI; (repeat' split) <;> first | rfl | omega)) rfl (fun _ => trivial)
  · refine aw_reg [(5, .dec false)] [0, 1, 5, 6, 7, 19] [] [I dx, I dy, I (dx.natAbs : Int), I (dy.natAbs : Int), I (((dx.natAbs : Int) + (dy.natAbs : Int)) * ((dx.natAbs : Int) + (dy.natAbs : Int))), Bv false] [] [inR .i64 (2 * (dx.natAbs : Int)), inR .i64 ((2 * (dx.natAbs : Int)) * (dx.natAbs : Int)), ¬ ((((dx.natAbs : Int) + (dy.natAbs : Int)) * ((dx.natAbs : Int) + (dy.natAbs : Int))) ≤ ((2 * (dx.natAbs : Int)) * (dx.natAbs : Int)))] (by kernel_rfl) hB ⟨(inR_i64 (by omega) (by omega)), (inR_i64 (by omega) (by omega)), h1, trivial⟩ ?_
    refine ae_then ?_
    refine aw_false rfl ?_
    refine aw_seq ?_
    refine aw_reg [(5, .dec false)] [0, 1, 6, 7, 30] [] [I dx, I dy, I (dy.natAbs : Int), I (((dx.natAbs : Int) + (dy.natAbs : Int)) * ((dx.natAbs : Int) + (dy.natAbs : Int))), Bv false] [] [inR .i64 (2 * (dx.natAbs : Int)), inR .i64 ((2 * (dx.natAbs : Int)) * (dx.natAbs : Int)), ¬ ((((dx.natAbs : Int) + (dy.natAbs : Int)) * ((dx.natAbs : Int) + (dy.natAbs : Int))) ≤ ((2 * (dx.natAbs : Int)) * (dx.natAbs : Int)))] (by kernel_rfl) hB ⟨(inR_i64 (by omega) (by omega)), (inR_i64 (by omega) (by omega)), h1, trivial⟩ ?_
    refine ae_then ?_
    refine aw_false rfl ?_
    refine aw_seq ?_
    by_cases h3 : (((dx.natAbs : Int) + (dy.natAbs : Int)) * ((dx.natAbs : Int) + (dy.natAbs : Int))) ≤ ((2 * (dy.natAbs : Int)) * (dy.natAbs : Int))
    · by_cases h4 : 0 < dy
      · refine aw_reg [(5, .dec true), (8, .dec true)] [0, 1, 6, 7, 37] [] [I dx, I dy, I (dy.natAbs : Int), I (((dx.natAbs : Int) + (dy.natAbs : Int)) * ((dx.natAbs : Int) + (dy.natAbs : Int))), Bv true] [] [inR .i64 (2 * (dy.natAbs : Int)), inR .i64 ((2 * (dy.natAbs : Int)) * (dy.natAbs : Int)), (((dx.natAbs : Int) + (dy.natAbs : Int)) * ((dx.natAbs : Int) + (dy.natAbs : Int))) ≤ ((2 * (dy.natAbs : Int)) * (dy.natAbs : Int)), 0 < dy] (by kernel_rfl) hB ⟨(inR_i64 (by omega) (by omega)), (inR_i64 (by omega) (by omega)), h3, h4, trivial⟩ ?_
        refine ae_then ?_
        refine aw_true rfl ?_
        refine aw_seq ?_
        refine aw_reg [] [4] [] [I 2] [] [] (by kernel_rfl) hB trivial ?_
        refine ae_then ?_
        refine aw_ret ?_
        refine ae_ret_block (ae_ret_then ?_)
        refine ae_ret hB (I 2) (by kernel_rfl) (.inl (by refine congrArg I ?_; unfold dirI; (repeat' split) <;> first | rfl | omega)) rfl (fun _ => trivial)
      · refine aw_reg [(5, .dec true), (8, .dec false)] [0, 1, 6, 7, 37] [] [I dx, I dy, I (dy.natAbs : Int), I (((dx.natAbs : Int) + (dy.natAbs : Int)) * ((dx.natAbs : Int) + (dy.natAbs : Int))), Bv false] [] [inR .i64 (2 * (dy.natAbs : Int)), inR .i64 ((2 * (dy.natAbs : Int)) * (dy.natAbs : Int)), (((dx.natAbs : Int) + (dy.natAbs : Int)) * ((dx.natAbs : Int) + (dy.natAbs : Int))) ≤ ((2 * (dy.natAbs : Int)) * (dy.natAbs : Int)), ¬ (0 < dy)] (by kernel_rfl) hB ⟨(inR_i64 (by omega) (by omega)), (inR_i64 (by omega) (by omega)), h3, h4, trivial⟩ ?_
        refine ae_then ?_
        refine aw_false rfl ?_
        refine aw_seq ?_
        refine aw_reg [(5, .dec true)] [0, 1, 48] [] [I dx, I dy, Bv true] [] [inR .i64 (2 * (dy.natAbs : Int)), inR .i64 ((2 * (dy.natAbs : Int)) * (dy.natAbs : Int)), (((dx.natAbs : Int) + (dy.natAbs : Int)) * ((dx.natAbs : Int) + (dy.natAbs : Int))) ≤ ((2 * (dy.natAbs : Int)) * (dy.natAbs : Int))] (by kernel_rfl) hB ⟨(inR_i64 (by omega) (by omega)), (inR_i64 (by omega) (by omega)), h3, trivial⟩ ?_
        refine ae_then ?_
        refine aw_true rfl ?_
        refine aw_seq ?_
        refine aw_reg [] [4] [] [I 6] [] [] (by kernel_rfl) hB trivial ?_
        refine ae_then ?_
        refine aw_ret ?_
        refine ae_ret_block (ae_ret_then ?_)
        refine ae_ret hB (I 6) (by kernel_rfl) (.inl (by refine congrArg I ?_; unfold dirI; (repeat' split) <;> first | rfl | omega)) rfl (fun _ => trivial)
    · refine aw_reg [(5, .dec false)] [0, 1, 6, 7, 37] [] [I dx, I dy, I (dy.natAbs : Int), I (((dx.natAbs : Int) + (dy.natAbs : Int)) * ((dx.natAbs : Int) + (dy.natAbs : Int))), Bv false] [] [inR .i64 (2 * (dy.natAbs : Int)), inR .i64 ((2 * (dy.natAbs : Int)) * (dy.natAbs : Int)), ¬ ((((dx.natAbs : Int) + (dy.natAbs : Int)) * ((dx.natAbs : Int) + (dy.natAbs : Int))) ≤ ((2 * (dy.natAbs : Int)) * (dy.natAbs : Int)))] (by kernel_rfl) hB ⟨(inR_i64 (by omega) (by omega)), (inR_i64 (by omega) (by omega)), h3, trivial⟩ ?_
      refine ae_then ?_
      refine aw_false rfl ?_
      refine aw_seq ?_
      refine aw_reg [(5, .dec false)] [0, 1, 48] [] [I dx, I dy, Bv false] [] [inR .i64 (2 * (dy.natAbs : Int)), inR .i64 ((2 * (dy.natAbs : Int)) * (dy.natAbs : Int)), ¬ ((((dx.natAbs : Int) + (dy.natAbs : Int)) * ((dx.natAbs : Int) + (dy.natAbs : Int))) ≤ ((2 * (dy.natAbs : Int)) * (dy.natAbs : Int)))] (by kernel_rfl) hB ⟨(inR_i64 (by omega) (by omega)), (inR_i64 (by omega) (by omega)), h3, trivial⟩ ?_
      refine ae_then ?_
      refine aw_false rfl ?_
      refine aw_seq ?_
      by_cases h5 : 0 < dx
      · by_cases h6 : 0 < dy
        · refine aw_reg [(1, .dec true), (4, .dec true)] [0, 1, 55] [] [I dx, I dy, Bv true] [] [0 < dx, 0 < dy] (by kernel_rfl) hB ⟨h5, h6, trivial⟩ ?_
          refine ae_then ?_
          refine aw_true rfl ?_
          refine aw_seq ?_
          refine aw_reg [] [4] [] [I 1] [] [] (by kernel_rfl) hB trivial ?_
          refine ae_then ?_
          refine aw_ret ?_
          refine ae_ret_block (ae_ret_then ?_)
          refine ae_ret hB (I 1) (by kernel_rfl) (.inl (by refine congrArg I ?_; unfold dirI; (repeat' split) <;> first | rfl | omega)) rfl (fun _ => trivial)
        · refine aw_reg [(1, .dec true), (4, .dec false)] [0, 1, 55] [] [I dx, I dy, Bv false] [] [0 < dx, ¬ (0 < dy)] (by kernel_rfl) hB ⟨h5, h6, trivial⟩ ?_
          refine ae_then ?_
          refine aw_false rfl ?_
          refine aw_seq ?_
          refine aw_reg [(1, .dec false)] [0, 62] [] [I dx, Bv false] [] [¬ (0 < dy)] (by kernel_rfl) hB ⟨h6, trivial⟩ ?_
          refine ae_then ?_
          refine aw_false rfl ?_
          refine aw_seq ?_
          by_cases h7 : dx < 0
          · refine aw_reg [(1, .dec true)] [65] [] [Bv true] [] [dx < 0] (by kernel_rfl) hB ⟨h7, trivial⟩ ?_
            refine ae_then ?_
            refine aw_true rfl ?_
            refine aw_seq ?_
            refine aw_reg [] [4] [] [I 5] [] [] (by kernel_rfl) hB trivial ?_
            refine ae_then ?_
            refine aw_ret ?_
            refine ae_ret_block (ae_ret_then ?_)
            refine ae_ret hB (I 5) (by kernel_rfl) (.inl (by refine congrArg I ?_; unfold dirI; (repeat' split) <;> first | rfl | omega)) rfl (fun _ => trivial)
          · refine aw_reg [(1, .dec false)] [65] [] [Bv false] [] [¬ (dx < 0)] (by kernel_rfl) hB ⟨h7, trivial⟩ ?_
            refine ae_then ?_
            refine aw_false rfl ?_
            refine aw_skip ?_
            refine ae_block 0 ?_
            refine ae_then ?_
            refine aw_seq ?_
            refine aw_reg [] [4] [] [I 7] [] [] (by kernel_rfl) hB trivial ?_
            refine ae_then ?_
            refine aw_ret ?_
            refine ae_ret hB (I 7) (by kernel_rfl) (.inl (by refine congrArg I ?_; unfold dirI; (repeat' split) <;> first | rfl | omega)) rfl (fun _ => trivial)
      · refine aw_reg [(1, .dec false)] [0, 1, 55] [] [I dx, I dy, Bv false] [] [¬ (0 < dx)] (by kernel_rfl) hB ⟨h5, trivial⟩ ?_
        refine ae_then ?_
        refine aw_false rfl ?_
        refine aw_seq ?_
        by_cases h8 : 0 < dy
        · refine aw_reg [(1, .dec true)] [0, 62] [] [I dx, Bv true] [] [0 < dy] (by kernel_rfl) hB ⟨h8, trivial⟩ ?_
          refine ae_then ?_
          refine aw_true rfl ?_
          refine aw_seq ?_
          refine aw_reg [] [4] [] [I 3] [] [] (by kernel_rfl) hB trivial ?_
          refine ae_then ?_
          refine aw_ret ?_
          refine ae_ret_block (ae_ret_then ?_)
          refine ae_ret hB (I 3) (by kernel_rfl) (.inl (by refine congrArg I ?_; unfold dirI; (repeat' split) <;> first | rfl | omega)) rfl (fun _ => trivial)
        · refine aw_reg [(1, .dec false)] [0, 62] [] [I dx, Bv false] [] [¬ (0 < dy)] (by kernel_rfl) hB ⟨h8, trivial⟩ ?_
          refine ae_then ?_
          refine aw_false rfl ?_
          refine aw_seq ?_
          by_cases h9 : dx < 0
          · refine aw_reg [(1, .dec true)] [65] [] [Bv true] [] [dx < 0] (by kernel_rfl) hB ⟨h9, trivial⟩ ?_
            refine ae_then ?_
            refine aw_true rfl ?_
            refine aw_seq ?_
            refine aw_reg [] [4] [] [I 5] [] [] (by kernel_rfl) hB trivial ?_
            refine ae_then ?_
            refine aw_ret ?_
            refine ae_ret_block (ae_ret_then ?_)
            refine ae_ret hB (I 5) (by kernel_rfl) (.inl (by refine congrArg I ?_; unfold dirI; (repeat' split) <;> first | rfl | omega)) rfl (fun _ => trivial)
          · refine aw_reg [(1, .dec false)] [65] [] [Bv false] [] [¬ (dx < 0)] (by kernel_rfl) hB ⟨h9, trivial⟩ ?_
            refine ae_then ?_
            refine aw_false rfl ?_
            refine aw_skip ?_
            refine ae_block 0 ?_
            refine ae_then ?_
            refine aw_seq ?_
            refine aw_reg [] [4] [] [I 7] [] [] (by kernel_rfl) hB trivial ?_
            refine ae_then ?_
            refine aw_ret ?_
            refine ae_ret hB (I 7) (by kernel_rfl) (.inl (by refine congrArg I ?_; unfold dirI; (repeat' split) <;> first | rfl | omega)) rfl (fun _ => trivial)


-- impl.directionsOf
theorem directionsOf_ok (s : Stroke) (ok : okStroke' s = true) : Con Try.prog 146 [.agg [slPoint false s.Points]] true (slI true (dirsL s.Points s.Points.length)) := by
  have hln := okS_len ok
  refine fn_ok (fn := Try.f146) (nt := 52) Try.func146 rfl rfl rfl rfl (by simp [taggedL, tagged, tagPoint]) fun B hB => ?_
  refine aw_lens (x := .agg [slPoint false s.Points]) 0 rfl (fun len_s => ?_)
  simp [LenOK, LenL, cPoint, fPoint, slPoint] at len_s
  refine aw_seq ?_
  refine aw_reg [(0, .new 1)] [1] [1] [.ref 1 0] [some (.box [slPoint false s.Points])] [] (by kernel_rfl) hB trivial ?_
  refine ae_then ?_
  refine aw_seq ?_
  refine aw_reg [] [1, 3] [1] [.ref 1 0, nilA] [some (.box [slPoint false s.Points])] [] (by kernel_rfl) hB trivial ?_
  refine ae_then ?_
  refine aw_seq ?_
  refine aw_seq ?_
  refine aw_reg [] [1, 3, 4] [1] [.ref 1 0, nilA, I 1] [some (.box [slPoint false s.Points])] [] (by kernel_rfl) hB trivial ?_
  refine ae_then ?_
  refine aw_block ?_
  refine aw_nil hB 3 703 1 (fun _ => []) (by kernel_rfl) ?_
  refine aw_weak hB [] (T := [(1, .ref 1 0), (3, .arr 703), (4, I 1)]) (O := [(1, .box [slPoint false s.Points]), (703, .arr 1 (([] : List Int).length) (fI ([] : List Int)))]) rfl (⟨.inl rfl, .inl rfl, .inl rfl, trivial⟩) (⟨.inl rfl, .inr ⟨rfl, (by first | rfl | (simp; done) | (simp; omega) | omega), fun i hi => absurd hi (Nat.not_lt_zero _)⟩, trivial⟩) ?_
  refine aw_loop (fun gn gσ => ∃ (list : List Int) (k : Int), gn = ((s.Points.length : Int) - k).toNat ∧ (1 ≤ k ∧ (k ≤ (s.Points.length : Int) ∨ k = 1)) ∧ (list = dirsL s.Points k.toNat) ∧ gσ = mkS [(1, .ref 1 0), (3, .arr 703), (4, I k)] [(1, .box [slPoint false s.Points]), (703, .arr 1 list.length (fI list))]) (((s.Points.length : Int) - 1).toNat) ⟨([] : List Int), 1, rfl, (by omega), (by exact (dirsL_one _).symm), rfl⟩ (fun gn gσ hI => ?_)
  obtain ⟨list, k, rfl, hi0, hd0, rfl⟩ := hI
  refine aw_seq ?_
  refine aw_seq ?_
  by_cases h1 : k < (s.Points.length : Int)
  · have hi : k.toNat < s.Points.length := by omega
    have hi2 : (k - 1).toNat < s.Points.length := by omega
    have hp1 := okP_iff.1 (okS_at ok hi2)
    have hp2 := okP_iff.1 (okS_at ok hi)
    have hbd := dirI_bd ((at_ s.Points k.toNat).X - (at_ s.Points (k - 1).toNat).X) ((at_ s.Points k.toNat).Y - (at_ s.Points (k - 1).toNat).Y)
    have hdl : list.length ≤ k.toNat := by rw [hd0]; exact dirsL_len _ _
    refine aw_reg [(4, .dec true)] [1, 3, 4, 11] [1, 703] [.ref 1 0, .arr 703, I k, Bv true] [some (.box [slPoint false s.Points]), some (.arr 1 list.length (fI list))] [k < (s.Points.length : Int)] (by kernel_rfl) hB ⟨h1, trivial⟩ ?_
    refine ae_then ?_
    refine aw_true rfl ?_
    refine aw_skip ?_
    refine ae_then ?_
    refine aw_seq ?_
    refine aw_block ?_
    refine aw_seq ?_
    refine aw_reg [(11, .new 5), (12, .new 6)] [1, 3, 4, 5, 6] [1, 5, 6, 703] [.ref 1 0, .arr 703, I k, .ref 5 0, .ref 6 0] [some (.box [slPoint false s.Points]), some (.box [I ((at_ s.Points ((k - 1).toNat)).X), I ((at_ s.Points ((k - 1).toNat)).Y), I ((at_ s.Points ((k - 1).toNat)).T)]), some (.box [I ((at_ s.Points k.toNat).X), I ((at_ s.Points k.toNat).Y), I ((at_ s.Points k.toNat).T)]), some (.arr 1 list.length (fI list))] [inR .i64 (k - 1), (0 : Int) ≤ (k - 1) ∧ (k - 1) < (s.Points.length : Int), (0 : Int) ≤ k ∧ k < (s.Points.length : Int)] (by kernel_rfl) hB ⟨(inR_i64 (by omega) (by omega)), ⟨(by omega), (by omega)⟩, ⟨(by omega), (by omega)⟩, trivial⟩ ?_
    refine ae_then ?_
    refine aw_seq ?_
    by_cases h2 : ((at_ s.Points ((k - 1).toNat)).X) = ((at_ s.Points k.toNat).X)
    · by_cases h3 : ((at_ s.Points ((k - 1).toNat)).Y) = ((at_ s.Points k.toNat).Y)
      · refine aw_reg [(4, .dec false), (10, .dec false)] [1, 3, 4, 5, 6, 36] [1, 5, 6, 703] [.ref 1 0, .arr 703, I k, .ref 5 0, .ref 6 0, Bv false] [some (.box [slPoint false s.Points]), some (.box [I ((at_ s.Points ((k - 1).toNat)).X), I ((at_ s.Points ((k - 1).toNat)).Y), I ((at_ s.Points ((k - 1).toNat)).T)]), some (.box [I ((at_ s.Points k.toNat).X), I ((at_ s.Points k.toNat).Y), I ((at_ s.Points k.toNat).T)]), some (.arr 1 list.length (fI list))] [¬ (((at_ s.Points ((k - 1).toNat)).X) ≠ ((at_ s.Points k.toNat).X)), ¬ (((at_ s.Points ((k - 1).toNat)).Y) ≠ ((at_ s.Points k.toNat).Y))] (by kernel_rfl) hB ⟨(fun hq => hq h2), (fun hq => hq h3), trivial⟩ ?_
        refine ae_then ?_
        refine aw_false rfl ?_
        refine aw_skip ?_
        refine ae_block 1 ?_
        refine ae_then ?_
        refine aw_reg [] [1, 3, 4] [1, 703] [.ref 1 0, .arr 703, I (k + 1)] [some (.box [slPoint false s.Points]), some (.arr 1 list.length (fI list))] [inR .i64 (k + 1)] (by kernel_rfl) hB ⟨(inR_i64 (by omega) (by omega)), trivial⟩ ?_
        exact ae_again _ (by omega) ⟨list, (k + 1), rfl, (by omega), (by rw [hd0]; first | (exact (dirsL_same hi0.1 (by omega) (by omega)).symm) | (exact (dirsL_more hi0.1 (by omega)).symm)), rfl⟩
      · refine aw_reg [(4, .dec false), (10, .dec true)] [1, 3, 4, 5, 6, 36] [1, 5, 6, 703] [.ref 1 0, .arr 703, I k, .ref 5 0, .ref 6 0, Bv true] [some (.box [slPoint false s.Points]), some (.box [I ((at_ s.Points ((k - 1).toNat)).X), I ((at_ s.Points ((k - 1).toNat)).Y), I ((at_ s.Points ((k - 1).toNat)).T)]), some (.box [I ((at_ s.Points k.toNat).X), I ((at_ s.Points k.toNat).Y), I ((at_ s.Points k.toNat).T)]), some (.arr 1 list.length (fI list))] [¬ (((at_ s.Points ((k - 1).toNat)).X) ≠ ((at_ s.Points k.toNat).X)), ((at_ s.Points ((k - 1).toNat)).Y) ≠ ((at_ s.Points k.toNat).Y)] (by kernel_rfl) hB ⟨(fun hq => hq h2), h3, trivial⟩ ?_
        refine ae_then ?_
        refine aw_true rfl ?_
        refine aw_reg [(11, .call [(true, I (((at_ s.Points k.toNat).X) - ((at_ s.Points ((k - 1).toNat)).X))), (true, I (((at_ s.Points k.toNat).Y) - ((at_ s.Points ((k - 1).toNat)).Y)))] true (I (dirI (((at_ s.Points k.toNat).X) - ((at_ s.Points ((k - 1).toNat)).X)) (((at_ s.Points k.toNat).Y) - ((at_ s.Points ((k - 1).toNat)).Y))))), (12, .new 49), (13, .new 50)] [1, 3, 4] [1, 50] [.ref 1 0, .arr 50, I k] [some (.box [slPoint false s.Points]), some (.arr 1 (list.length + 1) (catF list.length (fI list) (litF [I (dirI (((at_ s.Points k.toNat).X) - ((at_ s.Points ((k - 1).toNat)).X)) (((at_ s.Points k.toNat).Y) - ((at_ s.Points ((k - 1).toNat)).Y)))] 1)))] [inR .i64 (((at_ s.Points k.toNat).X) - ((at_ s.Points ((k - 1).toNat)).X)), inR .i64 (((at_ s.Points k.toNat).Y) - ((at_ s.Points ((k - 1).toNat)).Y)), Con Try.prog 164 [I (((at_ s.Points k.toNat).X) - ((at_ s.Points ((k - 1).toNat)).X)), I (((at_ s.Points k.toNat).Y) - ((at_ s.Points ((k - 1).toNat)).Y))] true (I (dirI (((at_ s.Points k.toNat).X) - ((at_ s.Points ((k - 1).toNat)).X)) (((at_ s.Points k.toNat).Y) - ((at_ s.Points ((k - 1).toNat)).Y)))) ∧ ((I (((at_ s.Points k.toNat).X) - ((at_ s.Points ((k - 1).toNat)).X)) : AV) = I (((at_ s.Points k.toNat).X) - ((at_ s.Points ((k - 1).toNat)).X))) ∧ ((I (((at_ s.Points k.toNat).Y) - ((at_ s.Points ((k - 1).toNat)).Y)) : AV) = I (((at_ s.Points k.toNat).Y) - ((at_ s.Points ((k - 1).toNat)).Y))) ∧ True, (list.length + 1) * 8 ≤ 140737488355328] (by kernel_rfl) hB ⟨(inR_i64 (by omega) (by omega)), (inR_i64 (by omega) (by omega)), ⟨(directionOf_ok (((at_ s.Points k.toNat).X) - ((at_ s.Points ((k - 1).toNat)).X)) (((at_ s.Points k.toNat).Y) - ((at_ s.Points ((k - 1).toNat)).Y)) (by omega)), rfl, rfl, trivial⟩, (by omega), trivial⟩ ?_
        refine ae_block 1 ?_
        refine ae_then ?_
        refine aw_reg [] [1, 3, 4] [1, 50] [.ref 1 0, .arr 50, I (k + 1)] [some (.box [slPoint false s.Points]), some (.arr 1 (list.length + 1) (catF list.length (fI list) (litF [I (dirI (((at_ s.Points k.toNat).X) - ((at_ s.Points ((k - 1).toNat)).X)) (((at_ s.Points k.toNat).Y) - ((at_ s.Points ((k - 1).toNat)).Y)))] 1)))] [inR .i64 (k + 1)] (by kernel_rfl) hB ⟨(inR_i64 (by omega) (by omega)), trivial⟩ ?_
        refine ae_weak hB [(703, 50)] (T := [(1, .ref 1 0), (3, .arr 703), (4, I (k + 1))]) (O := [(1, .box [slPoint false s.Points]), (703, .arr 1 ((list ++ [(dirI (((at_ s.Points k.toNat).X) - ((at_ s.Points ((k - 1).toNat)).X)) (((at_ s.Points k.toNat).Y) - ((at_ s.Points ((k - 1).toNat)).Y)))]).length) (fI (list ++ [(dirI (((at_ s.Points k.toNat).X) - ((at_ s.Points ((k - 1).toNat)).X)) (((at_ s.Points k.toNat).Y) - ((at_ s.Points ((k - 1).toNat)).Y)))])))]) rfl (⟨.inl rfl, .inl rfl, .inl rfl, trivial⟩) (⟨.inl rfl, .inr ⟨rfl, (by first | rfl | (simp; done) | (simp; omega) | omega), fun i hi => .inl (cat_snoc (enc := cI) (xs := list) rfl i hi)⟩, trivial⟩) (ae_again _ (by omega) ⟨(list ++ [(dirI (((at_ s.Points k.toNat).X) - ((at_ s.Points ((k - 1).toNat)).X)) (((at_ s.Points k.toNat).Y) - ((at_ s.Points ((k - 1).toNat)).Y)))]), (k + 1), rfl, (by omega), (by rw [hd0]; first | (exact (dirsL_same hi0.1 (by omega) (by omega)).symm) | (exact (dirsL_more hi0.1 (by omega)).symm)), rfl⟩)
    · refine aw_reg [(4, .dec true)] [1, 3, 4, 5, 6, 36] [1, 5, 6, 703] [.ref 1 0, .arr 703, I k, .ref 5 0, .ref 6 0, Bv true] [some (.box [slPoint false s.Points]), some (.box [I ((at_ s.Points ((k - 1).toNat)).X), I ((at_ s.Points ((k - 1).toNat)).Y), I ((at_ s.Points ((k - 1).toNat)).T)]), some (.box [I ((at_ s.Points k.toNat).X), I ((at_ s.Points k.toNat).Y), I ((at_ s.Points k.toNat).T)]), some (.arr 1 list.length (fI list))] [((at_ s.Points ((k - 1).toNat)).X) ≠ ((at_ s.Points k.toNat).X)] (by kernel_rfl) hB ⟨h2, trivial⟩ ?_
      refine ae_then ?_
      refine aw_true rfl ?_
      refine aw_reg [(11, .call [(true, I (((at_ s.Points k.toNat).X) - ((at_ s.Points ((k - 1).toNat)).X))), (true, I (((at_ s.Points k.toNat).Y) - ((at_ s.Points ((k - 1).toNat)).Y)))] true (I (dirI (((at_ s.Points k.toNat).X) - ((at_ s.Points ((k - 1).toNat)).X)) (((at_ s.Points k.toNat).Y) - ((at_ s.Points ((k - 1).toNat)).Y))))), (12, .new 49), (13, .new 50)] [1, 3, 4] [1, 50] [.ref 1 0, .arr 50, I k] [some (.box [slPoint false s.Points]), some (.arr 1 (list.length + 1) (catF list.length (fI list) (litF [I (dirI (((at_ s.Points k.toNat).X) - ((at_ s.Points ((k - 1).toNat)).X)) (((at_ s.Points k.toNat).Y) - ((at_ s.Points ((k - 1).toNat)).Y)))] 1)))] [inR .i64 (((at_ s.Points k.toNat).X) - ((at_ s.Points ((k - 1).toNat)).X)), inR .i64 (((at_ s.Points k.toNat).Y) - ((at_ s.Points ((k - 1).toNat)).Y)), Con Try.prog 164 [I (((at_ s.Points k.toNat).X) - ((at_ s.Points ((k - 1).toNat)).X)), I (((at_ s.Points k.toNat).Y) - ((at_ s.Points ((k - 1).toNat)).Y))] true (I (dirI (((at_ s.Points k.toNat).X) - ((at_ s.Points ((k - 1).toNat)).X)) (((at_ s.Points k.toNat).Y) - ((at_ s.Points ((k - 1).toNat)).Y)))) ∧ ((I (((at_ s.Points k.toNat).X) - ((at_ s.Points ((k - 1).toNat)).X)) : AV) = I (((at_ s.Points k.toNat).X) - ((at_ s.Points ((k - 1).toNat)).X))) ∧ ((I (((at_ s.Points k.toNat).Y) - ((at_ s.Points ((k - 1).toNat)).Y)) : AV) = I (((at_ s.Points k.toNat).Y) - ((at_ s.Points ((k - 1).toNat)).Y))) ∧ True, (list.length + 1) * 8 ≤ 140737488355328] (by kernel_rfl) hB ⟨(inR_i64 (by omega) (by omega)), (inR_i64 (by omega) (by omega)), ⟨(directionOf_ok (((at_ s.Points k.toNat).X) - ((at_ s.Points ((k - 1).toNat)).X)) (((at_ s.Points k.toNat).Y) - ((at_ s.Points ((k - 1).toNat)).Y)) (by omega)), rfl, rfl, trivial⟩, (by omega), trivial⟩ ?_
      refine ae_block 1 ?_
      refine ae_then ?_
      refine aw_reg [] [1, 3, 4] [1, 50] [.ref 1 0, .arr 50, I (k + 1)] [some (.box [slPoint false s.Points]), some (.arr 1 (list.length + 1) (catF list.length (fI list) (litF [I (dirI (((at_ s.Points k.toNat).X) - ((at_ s.Points ((k - 1).toNat)).X)) (((at_ s.Points k.toNat).Y) - ((at_ s.Points ((k - 1).toNat)).Y)))] 1)))] [inR .i64 (k + 1)] (by kernel_rfl) hB ⟨(inR_i64 (by omega) (by omega)), trivial⟩ ?_
      refine ae_weak hB [(703, 50)] (T := [(1, .ref 1 0), (3, .arr 703), (4, I (k + 1))]) (O := [(1, .box [slPoint false s.Points]), (703, .arr 1 ((list ++ [(dirI (((at_ s.Points k.toNat).X) - ((at_ s.Points ((k - 1).toNat)).X)) (((at_ s.Points k.toNat).Y) - ((at_ s.Points ((k - 1).toNat)).Y)))]).length) (fI (list ++ [(dirI (((at_ s.Points k.toNat).X) - ((at_ s.Points ((k - 1).toNat)).X)) (((at_ s.Points k.toNat).Y) - ((at_ s.Points ((k - 1).toNat)).Y)))])))]) rfl (⟨.inl rfl, .inl rfl, .inl rfl, trivial⟩) (⟨.inl rfl, .inr ⟨rfl, (by first | rfl | (simp; done) | (simp; omega) | omega), fun i hi => .inl (cat_snoc (enc := cI) (xs := list) rfl i hi)⟩, trivial⟩) (ae_again _ (by omega) ⟨(list ++ [(dirI (((at_ s.Points k.toNat).X) - ((at_ s.Points ((k - 1).toNat)).X)) (((at_ s.Points k.toNat).Y) - ((at_ s.Points ((k - 1).toNat)).Y)))]), (k + 1), rfl, (by omega), (by rw [hd0]; first | (exact (dirsL_same hi0.1 (by omega) (by omega)).symm) | (exact (dirsL_more hi0.1 (by omega)).symm)), rfl⟩)
  · have hie : k.toNat = s.Points.length := by omega
    rw [hie] at hd0
    subst hd0
    refine aw_reg [(4, .dec false)] [1, 3, 4, 11] [1, 703] [.ref 1 0, .arr 703, I k, Bv false] [some (.box [slPoint false s.Points]), some (.arr 1 ((dirsL s.Points s.Points.length).length) (fI (dirsL s.Points s.Points.length)))] [¬ (k < (s.Points.length : Int))] (by kernel_rfl) hB ⟨h1, trivial⟩ ?_
    refine ae_then ?_
    refine aw_false rfl ?_
    refine aw_exit ?_
    refine ae_exit_then ?_
    refine ae_exit_then ?_
    refine ae_exit_same ?_
    refine ae_then ?_
    refine aw_seq ?_
    refine aw_reg [] [2] [703] [.arr 703] [some (.arr 1 ((dirsL s.Points s.Points.length).length) (fI (dirsL s.Points s.Points.length)))] [] (by kernel_rfl) hB trivial ?_
    refine ae_then ?_
    refine aw_ret ?_
    refine ae_ret hB (.arr 703) (by kernel_rfl) (.inr ⟨(fun _ => rfl), rfl, rfl, fun i _ => .inl rfl⟩) rfl (fun _ => (tagI true _))


-- impl.BendOf
theorem BendOf_ok (s : Stroke) (ok : okStroke' s = true) : Con Try.prog 118 [.agg [slPoint false s.Points]] true (.tup [I (bendT s), I 0]) := by
  have hln := okS_len ok
  have hdl := dirsL_len s.Points s.Points.length
  refine fn_ok (fn := Try.f118) (nt := 35) Try.func118 rfl rfl rfl rfl (by simp [taggedL, tagged, tagPoint]) fun B hB => ?_
  refine aw_lens (x := .agg [slPoint false s.Points]) 0 rfl (fun len_s => ?_)
  simp [LenOK, LenL, cPoint, fPoint, slPoint] at len_s
  refine aw_seq ?_
  refine aw_reg [(0, .new 1)] [1] [1] [.ref 1 0] [some (.box [slPoint false s.Points])] [] (by kernel_rfl) hB trivial ?_
  refine ae_then ?_
  refine aw_seq ?_
  refine aw_seq ?_
  refine aw_reg [(1, .call [(true, .agg [slPoint false s.Points])] true (Bv true))] [1, 9] [1] [.ref 1 0, Bv false] [some (.box [slPoint false s.Points])] [Con Try.prog 74 [.agg [slPoint false s.Points]] true (Bv true) ∧ ((.agg [slPoint false s.Points] : AV) = .agg [slPoint false s.Points]) ∧ True] (by kernel_rfl) hB ⟨⟨(con_bool ok (ValidStroke_ok s)), rfl, trivial⟩, trivial⟩ ?_
  refine ae_then ?_
  refine aw_false rfl ?_
  refine aw_skip ?_
  refine ae_then ?_
  refine aw_seq ?_
  refine aw_reg [(1, .call [(true, .agg [slPoint false s.Points])] true (slI true (dirsL s.Points s.Points.length)))] [4] [] [slI true (dirsL s.Points s.Points.length)] [] [Con Try.prog 146 [.agg [slPoint false s.Points]] true (slI true (dirsL s.Points s.Points.length)) ∧ ((.agg [slPoint false s.Points] : AV) = .agg [slPoint false s.Points]) ∧ True] (by kernel_rfl) hB ⟨⟨(directionsOf_ok s ok), rfl, trivial⟩, trivial⟩ ?_
  refine ae_then ?_
  refine aw_seq ?_
  refine aw_reg [] [4, 5] [] [slI true (dirsL s.Points s.Points.length), I 0] [] [] (by kernel_rfl) hB trivial ?_
  refine ae_then ?_
  refine aw_seq ?_
  refine aw_seq ?_
  refine aw_reg [] [4, 5, 6] [] [slI true (dirsL s.Points s.Points.length), I 0, I 1] [] [] (by kernel_rfl) hB trivial ?_
  refine ae_then ?_
  refine aw_block ?_
  refine aw_loop (fun gn gσ => ∃ (sum : Int) (k : Int), gn = (((dirsL s.Points s.Points.length).length : Int) - k).toNat ∧ (1 ≤ k ∧ (k ≤ ((dirsL s.Points s.Points.length).length : Int) ∨ k = 1)) ∧ (sum = bendS (dirsL s.Points s.Points.length) k.toNat) ∧ (-3 * k ≤ sum ∧ sum ≤ 4 * k) ∧ gσ = mkS [(4, slI true (dirsL s.Points s.Points.length)), (5, I sum), (6, I k)] []) ((((dirsL s.Points s.Points.length).length : Int) - 1).toNat) ⟨0, 1, rfl, (by omega), (by exact (bendS_one _ _ (by decide)).symm), (by omega), rfl⟩ (fun gn gσ hI => ?_)
  obtain ⟨sum, k, rfl, hb0, hb1, hb2, rfl⟩ := hI
  refine aw_seq ?_
  refine aw_seq ?_
  by_cases h1 : k < (((dirsL s.Points s.Points.length).length) : Int)
  · have hi : k.toNat < (dirsL s.Points s.Points.length).length := by omega
    have hi2 : (k - 1).toNat < (dirsL s.Points s.Points.length).length := by omega
    have hd1 := dirsL_bd _ _ _ hi
    have hd2 := dirsL_bd _ _ _ hi2
    have hbb := bendI_bd (at_ (dirsL s.Points s.Points.length) (k - 1).toNat) (at_ (dirsL s.Points s.Points.length) k.toNat)
    refine aw_reg [(3, .dec true)] [4, 5, 6, 15] [] [slI true (dirsL s.Points s.Points.length), I sum, I k, Bv true] [] [k < (((dirsL s.Points s.Points.length).length) : Int)] (by kernel_rfl) hB ⟨h1, trivial⟩ ?_
    refine ae_then ?_
    refine aw_true rfl ?_
    refine aw_skip ?_
    refine ae_then ?_
    refine aw_seq ?_
    refine aw_block ?_
    refine aw_reg [(13, .nn)] [4, 5, 6] [] [slI true (dirsL s.Points s.Points.length), I (sum + ((((((at_ (dirsL s.Points s.Points.length) k.toNat) - (at_ (dirsL s.Points s.Points.length) ((k - 1).toNat))) + 8) + 3) % 8) - 3)), I k] [] [(0 : Int) ≤ k ∧ k < (((dirsL s.Points s.Points.length).length) : Int), inR .i64 (k - 1), (0 : Int) ≤ (k - 1) ∧ (k - 1) < (((dirsL s.Points s.Points.length).length) : Int), inR .i64 ((at_ (dirsL s.Points s.Points.length) k.toNat) - (at_ (dirsL s.Points s.Points.length) ((k - 1).toNat))), inR .i64 (((at_ (dirsL s.Points s.Points.length) k.toNat) - (at_ (dirsL s.Points s.Points.length) ((k - 1).toNat))) + 8), inR .i64 ((((at_ (dirsL s.Points s.Points.length) k.toNat) - (at_ (dirsL s.Points s.Points.length) ((k - 1).toNat))) + 8) + 3), (0 : Int) ≤ ((((at_ (dirsL s.Points s.Points.length) k.toNat) - (at_ (dirsL s.Points s.Points.length) ((k - 1).toNat))) + 8) + 3) ∧ (0 : Int) < 8, inR .i64 ((((((at_ (dirsL s.Points s.Points.length) k.toNat) - (at_ (dirsL s.Points s.Points.length) ((k - 1).toNat))) + 8) + 3) % 8) - 3), inR .i64 (sum + ((((((at_ (dirsL s.Points s.Points.length) k.toNat) - (at_ (dirsL s.Points s.Points.length) ((k - 1).toNat))) + 8) + 3) % 8) - 3))] (by kernel_rfl) hB ⟨⟨(by omega), (by omega)⟩, (inR_i64 (by omega) (by omega)), ⟨(by omega), (by omega)⟩, (inR_i64 (by omega) (by omega)), (inR_i64 (by omega) (by omega)), (inR_i64 (by omega) (by omega)), ⟨(by omega), (by omega)⟩, (inR_i64 (by omega) (by omega)), (inR_i64 (by omega) (by omega)), trivial⟩ ?_
    refine ae_block 1 ?_
    refine ae_then ?_
    refine aw_reg [] [4, 5, 6] [] [slI true (dirsL s.Points s.Points.length), I (sum + ((((((at_ (dirsL s.Points s.Points.length) k.toNat) - (at_ (dirsL s.Points s.Points.length) ((k - 1).toNat))) + 8) + 3) % 8) - 3)), I (k + 1)] [] [inR .i64 (k + 1)] (by kernel_rfl) hB ⟨(inR_i64 (by omega) (by omega)), trivial⟩ ?_
    exact ae_again _ (by omega) ⟨(sum + ((((((at_ (dirsL s.Points s.Points.length) k.toNat) - (at_ (dirsL s.Points s.Points.length) ((k - 1).toNat))) + 8) + 3) % 8) - 3)), (k + 1), rfl, (by omega), (by rw [bendS_succ hb0.1, ← hb1] <;> first | rfl | (unfold bendI; omega)), (by first | omega | (unfold bendI at *; omega)), rfl⟩
  · have hbt : sum = bendT s := by rw [hb1]; unfold bendT; by_cases e : k = 1; (subst e; rw [bendS_one _ _ (by omega), bendS_one _ _ (by omega)]); (congr 1; omega)
    refine aw_reg [(3, .dec false)] [4, 5, 6, 15] [] [slI true (dirsL s.Points s.Points.length), I sum, I k, Bv false] [] [¬ (k < (((dirsL s.Points s.Points.length).length) : Int))] (by kernel_rfl) hB ⟨h1, trivial⟩ ?_
    refine ae_then ?_
    refine aw_false rfl ?_
    refine aw_exit ?_
    refine ae_exit_then ?_
    refine ae_exit_then ?_
    refine ae_exit_same ?_
    refine ae_then ?_
    refine aw_seq ?_
    refine aw_reg [] [2, 3] [] [I sum, I 0] [] [] (by kernel_rfl) hB trivial ?_
    refine ae_then ?_
    refine aw_ret ?_
    refine ae_ret hB (.tup [I sum, I 0]) (by kernel_rfl) (.inl (by rw [hbt])) rfl (fun _ => (by simp [tagged, taggedL]))


-- impl.firstOf
theorem firstOf_ok (s : Stroke) (ok : okStroke' s = true) : Con Try.prog 120 [.agg [slPoint false s.Points]] true (.agg [I ((at_ s.Points 0).X), I ((at_ s.Points 0).Y), I ((at_ s.Points 0).T)]) := by
  have hln := okS_len ok
  refine fn_ok (fn := Try.f120) (nt := 7) Try.func120 rfl rfl rfl rfl (by simp [taggedL, tagged, tagPoint]) fun B hB => ?_
  refine aw_lens (x := .agg [slPoint false s.Points]) 0 rfl (fun len_s => ?_)
  simp [LenOK, LenL, cPoint, fPoint, slPoint] at len_s
  refine aw_seq ?_
  refine aw_reg [(0, .new 1), (1, .new 2)] [1, 2] [1, 2] [.ref 1 0, .ref 2 0] [some (.box [slPoint false s.Points]), some (.box [I 0, I 0, I 0])] [] (by kernel_rfl) hB trivial ?_
  refine ae_then ?_
  refine aw_seq ?_
  refine aw_reg [] [2] [2] [.ref 2 0] [some (.box [I ((at_ s.Points 0).X), I ((at_ s.Points 0).Y), I ((at_ s.Points 0).T)])] [(0 : Int) ≤ 0 ∧ 0 < (s.Points.length : Int)] (by kernel_rfl) hB ⟨⟨(by omega), (by omega)⟩, trivial⟩ ?_
  refine ae_then ?_
  refine aw_ret ?_
  refine ae_ret hB (.agg [I ((at_ s.Points 0).X), I ((at_ s.Points 0).Y), I ((at_ s.Points 0).T)]) (by kernel_rfl) (.inl rfl) rfl (fun _ => (by simp [tagged, taggedL]))


-- impl.lastOf
theorem lastOf_ok (s : Stroke) (ok : okStroke' s = true) : Con Try.prog 121 [.agg [slPoint false s.Points]] true (.agg [I ((at_ s.Points (s.Points.length - 1)).X), I ((at_ s.Points (s.Points.length - 1)).Y), I ((at_ s.Points (s.Points.length - 1)).T)]) := by
  have hln := okS_len ok
  refine fn_ok (fn := Try.f121) (nt := 11) Try.func121 rfl rfl rfl rfl (by simp [taggedL, tagged, tagPoint]) fun B hB => ?_
  refine aw_lens (x := .agg [slPoint false s.Points]) 0 rfl (fun len_s => ?_)
  simp [LenOK, LenL, cPoint, fPoint, slPoint] at len_s
  refine aw_seq ?_
  refine aw_reg [(0, .new 1), (1, .new 2)] [1, 2] [1, 2] [.ref 1 0, .ref 2 0] [some (.box [slPoint false s.Points]), some (.box [I 0, I 0, I 0])] [] (by kernel_rfl) hB trivial ?_
  refine ae_then ?_
  refine aw_seq ?_
  refine aw_reg [] [2] [2] [.ref 2 0] [some (.box [I ((at_ s.Points (((s.Points.length : Int) - 1).toNat)).X), I ((at_ s.Points (((s.Points.length : Int) - 1).toNat)).Y), I ((at_ s.Points (((s.Points.length : Int) - 1).toNat)).T)])] [inR .i64 ((s.Points.length : Int) - 1), (0 : Int) ≤ ((s.Points.length : Int) - 1) ∧ ((s.Points.length : Int) - 1) < (s.Points.length : Int)] (by kernel_rfl) hB ⟨(inR_i64 (by omega) (by omega)), ⟨(by omega), (by omega)⟩, trivial⟩ ?_
  refine ae_then ?_
  refine aw_ret ?_
  refine ae_ret hB (.agg [I ((at_ s.Points (((s.Points.length : Int) - 1).toNat)).X), I ((at_ s.Points (((s.Points.length : Int) - 1).toNat)).Y), I ((at_ s.Points (((s.Points.length : Int) - 1).toNat)).T)]) (by kernel_rfl) (.inl (by first | rfl | (have e : ((s.Points.length : Int) - 1).toNat = s.Points.length - 1 := (by omega); rw [e]))) rfl (fun _ => (by simp [tagged, taggedL]))


-- impl.StraightOf
theorem StraightOf_ok (s : Stroke) (ok : okStroke' s = true) : Con Try.prog 119 [.agg [slPoint false s.Points]] true (.tup [I (strI s), I 0]) := by
  have hln := okS_len ok
  have hpf := okS_at ok (j := 0) (by omega)
  have hpl := okS_at ok (j := s.Points.length - 1) (by omega)
  have hpf' := okP_iff.1 hpf
  have hpl' := okP_iff.1 hpl
  have hbx := boxS_all ok
  unfold okBox at hbx
  have hsb := sumS_bd ok s.Points.length (Nat.le_refl _)
  have heb := ends_bd ok
  have hle : ((s.Points.length : Int) - 1).toNat = s.Points.length - 1 := by omega
  have hplz : okP (at_ s.Points ((s.Points.length : Int) - 1).toNat) = true := by rw [hle]; exact hpl
  have hplz' := okP_iff.1 hplz
  have heb2 := segI_bd hpf hplz
  have heb3 := segI_bd hpf hpl
  refine fn_ok (fn := Try.f119) (nt := 21) Try.func119 rfl rfl rfl rfl (by simp [taggedL, tagged, tagPoint]) fun B hB => ?_
  refine aw_lens (x := .agg [slPoint false s.Points]) 0 rfl (fun len_s => ?_)
  simp [LenOK, LenL, cPoint, fPoint, slPoint] at len_s
  refine aw_seq ?_
  refine aw_reg [(0, .new 1)] [1] [1] [.ref 1 0] [some (.box [slPoint false s.Points])] [] (by kernel_rfl) hB trivial ?_
  refine ae_then ?_
  refine aw_seq ?_
  refine aw_seq ?_
  refine aw_reg [(1, .call [(true, .agg [slPoint false s.Points])] true (Bv true))] [1, 7] [1] [.ref 1 0, Bv false] [some (.box [slPoint false s.Points])] [Con Try.prog 74 [.agg [slPoint false s.Points]] true (Bv true) ∧ ((.agg [slPoint false s.Points] : AV) = .agg [slPoint false s.Points]) ∧ True] (by kernel_rfl) hB ⟨⟨(con_bool ok (ValidStroke_ok s)), rfl, trivial⟩, trivial⟩ ?_
  refine ae_then ?_
  refine aw_false rfl ?_
  refine aw_skip ?_
  refine ae_then ?_
  refine aw_seq ?_
  refine aw_reg [(1, .call [(true, .agg [slPoint false s.Points])] true (I (sumS s.Points s.Points.length)))] [1, 4] [1] [.ref 1 0, I (sumS s.Points s.Points.length)] [some (.box [slPoint false s.Points])] [Con Try.prog 116 [.agg [slPoint false s.Points]] true (I (sumS s.Points s.Points.length)) ∧ ((.agg [slPoint false s.Points] : AV) = .agg [slPoint false s.Points]) ∧ True] (by kernel_rfl) hB ⟨⟨(strokeLength_ok s ok), rfl, trivial⟩, trivial⟩ ?_
  refine ae_then ?_
  refine aw_seq ?_
  refine aw_seq ?_
  by_cases h1 : (sumS s.Points s.Points.length) = 0
  · refine aw_reg [(1, .dec true)] [1, 4, 11] [1] [.ref 1 0, I (sumS s.Points s.Points.length), Bv true] [some (.box [slPoint false s.Points])] [(sumS s.Points s.Points.length) = 0] (by kernel_rfl) hB ⟨h1, trivial⟩ ?_
    refine ae_then ?_
    refine aw_true rfl ?_
    refine aw_seq ?_
    refine aw_reg [] [2, 3] [] [I 1000, I 0] [] [] (by kernel_rfl) hB trivial ?_
    refine ae_then ?_
    refine aw_ret ?_
    refine ae_ret_then ?_
    refine ae_ret hB (.tup [I 1000, I 0]) (by kernel_rfl) (.inl (by unfold strI endsI; simp_all [hle])) rfl (fun _ => (by simp [tagged, taggedL]))
  · refine aw_reg [(1, .dec false)] [1, 4, 11] [1] [.ref 1 0, I (sumS s.Points s.Points.length), Bv false] [some (.box [slPoint false s.Points])] [¬ ((sumS s.Points s.Points.length) = 0)] (by kernel_rfl) hB ⟨h1, trivial⟩ ?_
    refine ae_then ?_
    refine aw_false rfl ?_
    refine aw_skip ?_
    refine ae_then ?_
    refine aw_seq ?_
    refine aw_reg [(1, .call [(true, .agg [slPoint false s.Points])] true (.agg [I ((at_ s.Points 0).X), I ((at_ s.Points 0).Y), I ((at_ s.Points 0).T)])), (3, .call [(true, .agg [slPoint false s.Points])] true (.agg [I ((at_ s.Points (s.Points.length - 1)).X), I ((at_ s.Points (s.Points.length - 1)).Y), I ((at_ s.Points (s.Points.length - 1)).T)])), (4, .call [(true, .agg [I ((at_ s.Points 0).X), I ((at_ s.Points 0).Y), I ((at_ s.Points 0).T)]), (true, .agg [I ((at_ s.Points (s.Points.length - 1)).X), I ((at_ s.Points (s.Points.length - 1)).Y), I ((at_ s.Points (s.Points.length - 1)).T)])] true (I (segI (at_ s.Points 0) (at_ s.Points (s.Points.length - 1))))), (7, .nn)] [2, 3] [] [I (min 1000 ((1000 * (segI (at_ s.Points 0) (at_ s.Points (s.Points.length - 1)))) / (sumS s.Points s.Points.length))), I 0] [] [Con Try.prog 120 [.agg [slPoint false s.Points]] true (.agg [I ((at_ s.Points 0).X), I ((at_ s.Points 0).Y), I ((at_ s.Points 0).T)]) ∧ ((.agg [slPoint false s.Points] : AV) = .agg [slPoint false s.Points]) ∧ True, Con Try.prog 121 [.agg [slPoint false s.Points]] true (.agg [I ((at_ s.Points (s.Points.length - 1)).X), I ((at_ s.Points (s.Points.length - 1)).Y), I ((at_ s.Points (s.Points.length - 1)).T)]) ∧ ((.agg [slPoint false s.Points] : AV) = .agg [slPoint false s.Points]) ∧ True, Con Try.prog 123 [.agg [I ((at_ s.Points 0).X), I ((at_ s.Points 0).Y), I ((at_ s.Points 0).T)], .agg [I ((at_ s.Points (s.Points.length - 1)).X), I ((at_ s.Points (s.Points.length - 1)).Y), I ((at_ s.Points (s.Points.length - 1)).T)]] true (I (segI (at_ s.Points 0) (at_ s.Points (s.Points.length - 1)))) ∧ ((.agg [I ((at_ s.Points 0).X), I ((at_ s.Points 0).Y), I ((at_ s.Points 0).T)] : AV) = .agg [I ((at_ s.Points 0).X), I ((at_ s.Points 0).Y), I ((at_ s.Points 0).T)]) ∧ ((.agg [I ((at_ s.Points (s.Points.length - 1)).X), I ((at_ s.Points (s.Points.length - 1)).Y), I ((at_ s.Points (s.Points.length - 1)).T)] : AV) = .agg [I ((at_ s.Points (s.Points.length - 1)).X), I ((at_ s.Points (s.Points.length - 1)).Y), I ((at_ s.Points (s.Points.length - 1)).T)]) ∧ True, inR .i64 (1000 * (segI (at_ s.Points 0) (at_ s.Points (s.Points.length - 1)))), (0 : Int) ≤ (1000 * (segI (at_ s.Points 0) (at_ s.Points (s.Points.length - 1)))) ∧ (0 : Int) < (sumS s.Points s.Points.length) ∧ inR .i64 (1000 * (segI (at_ s.Points 0) (at_ s.Points (s.Points.length - 1))))] (by kernel_rfl) hB ⟨⟨(firstOf_ok s ok), rfl, trivial⟩, ⟨(lastOf_ok s ok), rfl, trivial⟩, ⟨(lengthOf_ok (at_ s.Points 0) (at_ s.Points (s.Points.length - 1)) (by assumption) (by assumption)), rfl, rfl, trivial⟩, (inR_i64 (by omega) (by omega)), ⟨(by omega), (by omega), (inR_i64 (by omega) (by omega))⟩, trivial⟩ ?_
    refine ae_then ?_
    refine aw_ret ?_
    refine ae_ret hB (.tup [I (min 1000 ((1000 * (segI (at_ s.Points 0) (at_ s.Points (s.Points.length - 1)))) / (sumS s.Points s.Points.length))), I 0]) (by kernel_rfl) (.inl (by unfold strI endsI; simp_all [hle])) rfl (fun _ => (by simp [tagged, taggedL]))


-- impl.joinBoxes
theorem joinBoxes_ok (a : Box) (b : Box) : Con Try.prog 147 [.agg [I a.X1, I a.Y1, I a.X2, I a.Y2], .agg [I b.X1, I b.Y1, I b.X2, I b.Y2]] true (.agg [I ((joinB a b).X1), I ((joinB a b).Y1), I ((joinB a b).X2), I ((joinB a b).Y2)]) := by
  refine fn_ok (fn := Try.f147) (nt := 26) Try.func147 rfl rfl rfl rfl (by simp [taggedL, tagged]) fun B hB => ?_
  refine aw_seq ?_
  refine aw_reg [(0, .new 2), (1, .new 3), (2, .new 4)] [2, 3, 4] [2, 3, 4] [.ref 2 0, .ref 3 0, .ref 4 0] [some (.box [I a.X1, I a.Y1, I a.X2, I a.Y2]), some (.box [I b.X1, I b.Y1, I b.X2, I b.Y2]), some (.box [I 0, I 0, I 0, I 0])] [] (by kernel_rfl) hB trivial ?_
  refine ae_then ?_
  refine aw_seq ?_
  refine aw_reg [] [4] [4] [.ref 4 0] [some (.box [I (min a.X1 b.X1), I (min a.Y1 b.Y1), I (max a.X2 b.X2), I (max a.Y2 b.Y2)])] [] (by kernel_rfl) hB trivial ?_
  refine ae_then ?_
  refine aw_ret ?_
  refine ae_ret hB (.agg [I (min a.X1 b.X1), I (min a.Y1 b.Y1), I (max a.X2 b.X2), I (max a.Y2 b.Y2)]) (by kernel_rfl) (.inl (by first | rfl | (refine congrArg Bv ?_; simp [*]; done) | (refine congrArg Bv ?_; simp [*]; omega) | (refine congrArg Bv ?_; simp_all []; done) | (refine congrArg Bv ?_; simp_all []; omega))) rfl (fun _ => (by simp [tagged, taggedL]))


-- impl.boxOfStroke
theorem boxOfStroke_ok (s : Stroke) (ok : okStroke' s = true) : Con Try.prog 122 [.agg [slPoint false s.Points]] true (.agg [I ((boxS s.Points s.Points.length).X1), I ((boxS s.Points s.Points.length).Y1), I ((boxS s.Points s.Points.length).X2), I ((boxS s.Points s.Points.length).Y2)]) := by
  have hln := okS_len ok
  refine fn_ok (fn := Try.f122) (nt := 38) Try.func122 rfl rfl rfl rfl (by simp [taggedL, tagged, tagPoint]) fun B hB => ?_
  refine aw_lens (x := .agg [slPoint false s.Points]) 0 rfl (fun len_s => ?_)
  simp [LenOK, LenL, cPoint, fPoint, slPoint] at len_s
  refine aw_seq ?_
  refine aw_reg [(0, .new 1), (1, .new 2)] [1, 2] [1, 2] [.ref 1 0, .ref 2 0] [some (.box [slPoint false s.Points]), some (.box [I 0, I 0, I 0, I 0])] [] (by kernel_rfl) hB trivial ?_
  refine ae_then ?_
  refine aw_seq ?_
  refine aw_reg [(1, .call [(true, .agg [slPoint false s.Points])] true (.agg [I ((at_ s.Points 0).X), I ((at_ s.Points 0).Y), I ((at_ s.Points 0).T)])), (2, .new 3)] [1, 2, 3] [1, 2, 3] [.ref 1 0, .ref 2 0, .ref 3 0] [some (.box [slPoint false s.Points]), some (.box [I 0, I 0, I 0, I 0]), some (.box [I ((at_ s.Points 0).X), I ((at_ s.Points 0).Y), I ((at_ s.Points 0).T)])] [Con Try.prog 120 [.agg [slPoint false s.Points]] true (.agg [I ((at_ s.Points 0).X), I ((at_ s.Points 0).Y), I ((at_ s.Points 0).T)]) ∧ ((.agg [slPoint false s.Points] : AV) = .agg [slPoint false s.Points]) ∧ True] (by kernel_rfl) hB ⟨⟨(firstOf_ok s ok), rfl, trivial⟩, trivial⟩ ?_
  refine ae_then ?_
  refine aw_seq ?_
  refine aw_reg [(9, .new 4)] [1, 2, 4] [1, 2, 4] [.ref 1 0, .ref 2 0, .ref 4 0] [some (.box [slPoint false s.Points]), some (.box [I 0, I 0, I 0, I 0]), some (.box [I ((at_ s.Points 0).X), I ((at_ s.Points 0).Y), I ((at_ s.Points 0).X), I ((at_ s.Points 0).Y)])] [] (by kernel_rfl) hB trivial ?_
  refine ae_then ?_
  refine aw_seq ?_
  refine aw_seq ?_
  refine aw_reg [] [2, 4, 19, 20, 21] [2, 4] [.ref 2 0, .ref 4 0, slPoint false s.Points, I (s.Points.length : Int), I 0] [some (.box [I 0, I 0, I 0, I 0]), some (.box [I ((at_ s.Points 0).X), I ((at_ s.Points 0).Y), I ((at_ s.Points 0).X), I ((at_ s.Points 0).Y)])] [] (by kernel_rfl) hB trivial ?_
  refine ae_then ?_
  refine aw_block ?_
  refine aw_loop (fun gn gσ => ∃ (t21 : Int) (x1 : Int) (y1 : Int) (x2 : Int) (y2 : Int), gn = ((s.Points.length : Int) - t21).toNat ∧ (0 ≤ t21 ∧ t21 ≤ (s.Points.length : Int)) ∧ (Box.mk x1 y1 x2 y2 = boxS s.Points t21.toNat) ∧ gσ = mkS [(2, .ref 2 0), (4, .ref 4 0), (19, slPoint false s.Points), (20, I (s.Points.length : Int)), (21, I t21)] [(2, .box [I 0, I 0, I 0, I 0]), (4, .box [I x1, I y1, I x2, I y2])]) (((s.Points.length : Int) - 0).toNat) ⟨0, (at_ s.Points 0).X, (at_ s.Points 0).Y, (at_ s.Points 0).X, (at_ s.Points 0).Y, rfl, (by omega), (by first | rfl | exact (boxS_one _).symm), rfl⟩ (fun gn gσ hI => ?_)
  obtain ⟨t21, x1, y1, x2, y2, rfl, hi0, hb1, rfl⟩ := hI
  refine aw_seq ?_
  by_cases h1 : t21 < (s.Points.length : Int)
  · have hi : t21.toNat < s.Points.length := by omega
    refine aw_reg [(0, .dec true)] [2, 4, 19, 20, 21, 22] [2, 4] [.ref 2 0, .ref 4 0, slPoint false s.Points, I (s.Points.length : Int), I t21, Bv true] [some (.box [I 0, I 0, I 0, I 0]), some (.box [I x1, I y1, I x2, I y2])] [t21 < (s.Points.length : Int)] (by kernel_rfl) hB ⟨h1, trivial⟩ ?_
    refine ae_then ?_
    refine aw_seq ?_
    refine aw_true rfl ?_
    refine aw_skip ?_
    refine ae_then ?_
    refine aw_seq ?_
    refine aw_block ?_
    refine aw_seq ?_
    refine aw_reg [(2, .new 6)] [2, 4, 6, 19, 20, 21] [2, 4, 6] [.ref 2 0, .ref 4 0, .ref 6 0, slPoint false s.Points, I (s.Points.length : Int), I t21] [some (.box [I 0, I 0, I 0, I 0]), some (.box [I x1, I y1, I x2, I y2]), some (.box [I ((at_ s.Points t21.toNat).X), I ((at_ s.Points t21.toNat).Y), I ((at_ s.Points t21.toNat).T)])] [(0 : Int) ≤ t21 ∧ t21 < (s.Points.length : Int)] (by kernel_rfl) hB ⟨⟨(by omega), (by omega)⟩, trivial⟩ ?_
    refine ae_then ?_
    refine aw_reg [(10, .call [(true, .agg [I x1, I y1, I x2, I y2]), (true, .agg [I ((at_ s.Points t21.toNat).X), I ((at_ s.Points t21.toNat).Y), I ((at_ s.Points t21.toNat).X), I ((at_ s.Points t21.toNat).Y)])] true (.agg [I ((joinB (Box.mk x1 y1 x2 y2) (Box.mk ((at_ s.Points t21.toNat).X) ((at_ s.Points t21.toNat).Y) ((at_ s.Points t21.toNat).X) ((at_ s.Points t21.toNat).Y))).X1), I ((joinB (Box.mk x1 y1 x2 y2) (Box.mk ((at_ s.Points t21.toNat).X) ((at_ s.Points t21.toNat).Y) ((at_ s.Points t21.toNat).X) ((at_ s.Points t21.toNat).Y))).Y1), I ((joinB (Box.mk x1 y1 x2 y2) (Box.mk ((at_ s.Points t21.toNat).X) ((at_ s.Points t21.toNat).Y) ((at_ s.Points t21.toNat).X) ((at_ s.Points t21.toNat).Y))).X2), I ((joinB (Box.mk x1 y1 x2 y2) (Box.mk ((at_ s.Points t21.toNat).X) ((at_ s.Points t21.toNat).Y) ((at_ s.Points t21.toNat).X) ((at_ s.Points t21.toNat).Y))).Y2)]))] [2, 4, 19, 20, 21] [2, 4] [.ref 2 0, .ref 4 0, slPoint false s.Points, I (s.Points.length : Int), I t21] [some (.box [I 0, I 0, I 0, I 0]), some (.box [I ((joinB (Box.mk x1 y1 x2 y2) (Box.mk ((at_ s.Points t21.toNat).X) ((at_ s.Points t21.toNat).Y) ((at_ s.Points t21.toNat).X) ((at_ s.Points t21.toNat).Y))).X1), I ((joinB (Box.mk x1 y1 x2 y2) (Box.mk ((at_ s.Points t21.toNat).X) ((at_ s.Points t21.toNat).Y) ((at_ s.Points t21.toNat).X) ((at_ s.Points t21.toNat).Y))).Y1), I ((joinB (Box.mk x1 y1 x2 y2) (Box.mk ((at_ s.Points t21.toNat).X) ((at_ s.Points t21.toNat).Y) ((at_ s.Points t21.toNat).X) ((at_ s.Points t21.toNat).Y))).X2), I ((joinB (Box.mk x1 y1 x2 y2) (Box.mk ((at_ s.Points t21.toNat).X) ((at_ s.Points t21.toNat).Y) ((at_ s.Points t21.toNat).X) ((at_ s.Points t21.toNat).Y))).Y2)])] [Con Try.prog 147 [.agg [I x1, I y1, I x2, I y2], .agg [I ((at_ s.Points t21.toNat).X), I ((at_ s.Points t21.toNat).Y), I ((at_ s.Points t21.toNat).X), I ((at_ s.Points t21.toNat).Y)]] true (.agg [I ((joinB (Box.mk x1 y1 x2 y2) (Box.mk ((at_ s.Points t21.toNat).X) ((at_ s.Points t21.toNat).Y) ((at_ s.Points t21.toNat).X) ((at_ s.Points t21.toNat).Y))).X1), I ((joinB (Box.mk x1 y1 x2 y2) (Box.mk ((at_ s.Points t21.toNat).X) ((at_ s.Points t21.toNat).Y) ((at_ s.Points t21.toNat).X) ((at_ s.Points t21.toNat).Y))).Y1), I ((joinB (Box.mk x1 y1 x2 y2) (Box.mk ((at_ s.Points t21.toNat).X) ((at_ s.Points t21.toNat).Y) ((at_ s.Points t21.toNat).X) ((at_ s.Points t21.toNat).Y))).X2), I ((joinB (Box.mk x1 y1 x2 y2) (Box.mk ((at_ s.Points t21.toNat).X) ((at_ s.Points t21.toNat).Y) ((at_ s.Points t21.toNat).X) ((at_ s.Points t21.toNat).Y))).Y2)]) ∧ ((.agg [I x1, I y1, I x2, I y2] : AV) = .agg [I x1, I y1, I x2, I y2]) ∧ ((.agg [I ((at_ s.Points t21.toNat).X), I ((at_ s.Points t21.toNat).Y), I ((at_ s.Points t21.toNat).X), I ((at_ s.Points t21.toNat).Y)] : AV) = .agg [I ((at_ s.Points t21.toNat).X), I ((at_ s.Points t21.toNat).Y), I ((at_ s.Points t21.toNat).X), I ((at_ s.Points t21.toNat).Y)]) ∧ True] (by kernel_rfl) hB ⟨⟨(joinBoxes_ok (Box.mk x1 y1 x2 y2) (Box.mk ((at_ s.Points t21.toNat).X) ((at_ s.Points t21.toNat).Y) ((at_ s.Points t21.toNat).X) ((at_ s.Points t21.toNat).Y))), rfl, rfl, trivial⟩, trivial⟩ ?_
    refine ae_block 1 ?_
    refine ae_then ?_
    refine aw_reg [] [2, 4, 19, 20, 21] [2, 4] [.ref 2 0, .ref 4 0, slPoint false s.Points, I (s.Points.length : Int), I (t21 + 1)] [some (.box [I 0, I 0, I 0, I 0]), some (.box [I ((joinB (Box.mk x1 y1 x2 y2) (Box.mk ((at_ s.Points t21.toNat).X) ((at_ s.Points t21.toNat).Y) ((at_ s.Points t21.toNat).X) ((at_ s.Points t21.toNat).Y))).X1), I ((joinB (Box.mk x1 y1 x2 y2) (Box.mk ((at_ s.Points t21.toNat).X) ((at_ s.Points t21.toNat).Y) ((at_ s.Points t21.toNat).X) ((at_ s.Points t21.toNat).Y))).Y1), I ((joinB (Box.mk x1 y1 x2 y2) (Box.mk ((at_ s.Points t21.toNat).X) ((at_ s.Points t21.toNat).Y) ((at_ s.Points t21.toNat).X) ((at_ s.Points t21.toNat).Y))).X2), I ((joinB (Box.mk x1 y1 x2 y2) (Box.mk ((at_ s.Points t21.toNat).X) ((at_ s.Points t21.toNat).Y) ((at_ s.Points t21.toNat).X) ((at_ s.Points t21.toNat).Y))).Y2)])] [inR .i64 (t21 + 1)] (by kernel_rfl) hB ⟨(inR_i64 (by omega) (by omega)), trivial⟩ ?_
    exact ae_again _ (by omega) ⟨(t21 + 1), (joinB (Box.mk x1 y1 x2 y2) (Box.mk ((at_ s.Points t21.toNat).X) ((at_ s.Points t21.toNat).Y) ((at_ s.Points t21.toNat).X) ((at_ s.Points t21.toNat).Y))).X1, (joinB (Box.mk x1 y1 x2 y2) (Box.mk ((at_ s.Points t21.toNat).X) ((at_ s.Points t21.toNat).Y) ((at_ s.Points t21.toNat).X) ((at_ s.Points t21.toNat).Y))).Y1, (joinB (Box.mk x1 y1 x2 y2) (Box.mk ((at_ s.Points t21.toNat).X) ((at_ s.Points t21.toNat).Y) ((at_ s.Points t21.toNat).X) ((at_ s.Points t21.toNat).Y))).X2, (joinB (Box.mk x1 y1 x2 y2) (Box.mk ((at_ s.Points t21.toNat).X) ((at_ s.Points t21.toNat).Y) ((at_ s.Points t21.toNat).X) ((at_ s.Points t21.toNat).Y))).Y2, rfl, (by omega), (by rw [boxS_succ (by omega), ← hb1]; rfl), rfl⟩
  · have hie : t21.toNat = s.Points.length := by omega
    rw [hie] at hb1
    refine aw_reg [(0, .dec false)] [2, 4, 19, 20, 21, 22] [2, 4] [.ref 2 0, .ref 4 0, slPoint false s.Points, I (s.Points.length : Int), I t21, Bv false] [some (.box [I 0, I 0, I 0, I 0]), some (.box [I x1, I y1, I x2, I y2])] [¬ (t21 < (s.Points.length : Int))] (by kernel_rfl) hB ⟨h1, trivial⟩ ?_
    refine ae_then ?_
    refine aw_seq ?_
    refine aw_false rfl ?_
    refine aw_exit ?_
    refine ae_exit_then ?_
    refine ae_exit_then ?_
    refine ae_exit_same ?_
    refine ae_then ?_
    refine aw_seq ?_
    refine aw_reg [] [2] [2] [.ref 2 0] [some (.box [I x1, I y1, I x2, I y2])] [] (by kernel_rfl) hB trivial ?_
    refine ae_then ?_
    refine aw_ret ?_
    refine ae_ret hB (.agg [I x1, I y1, I x2, I y2]) (by kernel_rfl) (.inl (by rw [← hb1])) rfl (fun _ => (by simp [tagged, taggedL]))


-- impl.gestureOf
theorem gestureOf_ok (s : Stroke) (ok : okStroke' s = true) : Con Try.prog 75 [.agg [slPoint false s.Points]] true (I (gestI s)) := by
  have hln := okS_len ok
  have hpf := okS_at ok (j := 0) (by omega)
  have hpl := okS_at ok (j := s.Points.length - 1) (by omega)
  have hpf' := okP_iff.1 hpf
  have hpl' := okP_iff.1 hpl
  have hbx := boxS_all ok
  unfold okBox at hbx
  have hsb := sumS_bd ok s.Points.length (Nat.le_refl _)
  have heb := ends_bd ok
  have hle : ((s.Points.length : Int) - 1).toNat = s.Points.length - 1 := by omega
  have hplz : okP (at_ s.Points ((s.Points.length : Int) - 1).toNat) = true := by rw [hle]; exact hpl
  have hplz' := okP_iff.1 hplz
  have heb2 := segI_bd hpf hplz
  have heb3 := segI_bd hpf hpl
  have hbtb := bendT_bd ok
  refine fn_ok (fn := Try.f75) (nt := 86) Try.func75 rfl rfl rfl rfl (by simp [taggedL, tagged, tagPoint]) fun B hB => ?_
  refine aw_lens (x := .agg [slPoint false s.Points]) 0 rfl (fun len_s => ?_)
  simp [LenOK, LenL, cPoint, fPoint, slPoint] at len_s
  refine aw_seq ?_
  refine aw_reg [(0, .new 1)] [1] [1] [.ref 1 0] [some (.box [slPoint false s.Points])] [] (by kernel_rfl) hB trivial ?_
  refine ae_then ?_
  refine aw_seq ?_
  refine aw_reg [(1, .call [(true, .agg [slPoint false s.Points])] true (I (sumS s.Points s.Points.length))), (3, .call [(true, .agg [slPoint false s.Points])] true (I ((revS s.Points s.Points.length).1)))] [1, 3, 4] [1] [.ref 1 0, I (sumS s.Points s.Points.length), I ((revS s.Points s.Points.length).1)] [some (.box [slPoint false s.Points])] [Con Try.prog 116 [.agg [slPoint false s.Points]] true (I (sumS s.Points s.Points.length)) ∧ ((.agg [slPoint false s.Points] : AV) = .agg [slPoint false s.Points]) ∧ True, Con Try.prog 117 [.agg [slPoint false s.Points]] true (I ((revS s.Points s.Points.length).1)) ∧ ((.agg [slPoint false s.Points] : AV) = .agg [slPoint false s.Points]) ∧ True] (by kernel_rfl) hB ⟨⟨(strokeLength_ok s ok), rfl, trivial⟩, ⟨(reversalsOf_ok s ok), rfl, trivial⟩, trivial⟩ ?_
  refine ae_then ?_
  refine aw_seq ?_
  refine aw_reg [(1, .call [(true, .agg [slPoint false s.Points])] true (.tup [I (bendT s), I 0]))] [1, 3, 4, 5] [1] [.ref 1 0, I (sumS s.Points s.Points.length), I ((revS s.Points s.Points.length).1), I (bendT s)] [some (.box [slPoint false s.Points])] [Con Try.prog 118 [.agg [slPoint false s.Points]] true (.tup [I (bendT s), I 0]) ∧ ((.agg [slPoint false s.Points] : AV) = .agg [slPoint false s.Points]) ∧ True] (by kernel_rfl) hB ⟨⟨(BendOf_ok s ok), rfl, trivial⟩, trivial⟩ ?_
  refine ae_then ?_
  refine aw_seq ?_
  refine aw_reg [(1, .call [(true, .agg [slPoint false s.Points])] true (.tup [I (strI s), I 0]))] [1, 3, 4, 5, 7] [1] [.ref 1 0, I (sumS s.Points s.Points.length), I ((revS s.Points s.Points.length).1), I (bendT s), I (strI s)] [some (.box [slPoint false s.Points])] [Con Try.prog 119 [.agg [slPoint false s.Points]] true (.tup [I (strI s), I 0]) ∧ ((.agg [slPoint false s.Points] : AV) = .agg [slPoint false s.Points]) ∧ True] (by kernel_rfl) hB ⟨⟨(StraightOf_ok s ok), rfl, trivial⟩, trivial⟩ ?_
  refine ae_then ?_
  refine aw_seq ?_
  refine aw_reg [(1, .call [(true, .agg [slPoint false s.Points])] true (.agg [I ((at_ s.Points 0).X), I ((at_ s.Points 0).Y), I ((at_ s.Points 0).T)])), (3, .call [(true, .agg [slPoint false s.Points])] true (.agg [I ((at_ s.Points (s.Points.length - 1)).X), I ((at_ s.Points (s.Points.length - 1)).Y), I ((at_ s.Points (s.Points.length - 1)).T)])), (5, .call [(true, .agg [slPoint false s.Points])] true (.agg [I ((boxS s.Points s.Points.length).X1), I ((boxS s.Points s.Points.length).Y1), I ((boxS s.Points s.Points.length).X2), I ((boxS s.Points s.Points.length).Y2)])), (6, .new 9), (7, .new 10), (8, .new 11)] [3, 4, 5, 7, 9, 10, 11] [9, 10, 11] [I (sumS s.Points s.Points.length), I ((revS s.Points s.Points.length).1), I (bendT s), I (strI s), .ref 9 0, .ref 10 0, .ref 11 0] [some (.box [I ((at_ s.Points 0).X), I ((at_ s.Points 0).Y), I ((at_ s.Points 0).T)]), some (.box [I ((at_ s.Points (s.Points.length - 1)).X), I ((at_ s.Points (s.Points.length - 1)).Y), I ((at_ s.Points (s.Points.length - 1)).T)]), some (.box [I ((boxS s.Points s.Points.length).X1), I ((boxS s.Points s.Points.length).Y1), I ((boxS s.Points s.Points.length).X2), I ((boxS s.Points s.Points.length).Y2)])] [Con Try.prog 120 [.agg [slPoint false s.Points]] true (.agg [I ((at_ s.Points 0).X), I ((at_ s.Points 0).Y), I ((at_ s.Points 0).T)]) ∧ ((.agg [slPoint false s.Points] : AV) = .agg [slPoint false s.Points]) ∧ True, Con Try.prog 121 [.agg [slPoint false s.Points]] true (.agg [I ((at_ s.Points (s.Points.length - 1)).X), I ((at_ s.Points (s.Points.length - 1)).Y), I ((at_ s.Points (s.Points.length - 1)).T)]) ∧ ((.agg [slPoint false s.Points] : AV) = .agg [slPoint false s.Points]) ∧ True, Con Try.prog 122 [.agg [slPoint false s.Points]] true (.agg [I ((boxS s.Points s.Points.length).X1), I ((boxS s.Points s.Points.length).Y1), I ((boxS s.Points s.Points.length).X2), I ((boxS s.Points s.Points.length).Y2)]) ∧ ((.agg [slPoint false s.Points] : AV) = .agg [slPoint false s.Points]) ∧ True] (by kernel_rfl) hB ⟨⟨(firstOf_ok s ok), rfl, trivial⟩, ⟨(lastOf_ok s ok), rfl, trivial⟩, ⟨(boxOfStroke_ok s ok), rfl, trivial⟩, trivial⟩ ?_
  refine ae_then ?_
  refine aw_seq ?_
  refine aw_reg [] [3, 4, 5, 7, 9, 10, 11, 12] [9, 10, 11] [I (sumS s.Points s.Points.length), I ((revS s.Points s.Points.length).1), I (bendT s), I (strI s), .ref 9 0, .ref 10 0, .ref 11 0, I (((boxS s.Points s.Points.length).Y2) - ((boxS s.Points s.Points.length).Y1))] [some (.box [I ((at_ s.Points 0).X), I ((at_ s.Points 0).Y), I ((at_ s.Points 0).T)]), some (.box [I ((at_ s.Points (s.Points.length - 1)).X), I ((at_ s.Points (s.Points.length - 1)).Y), I ((at_ s.Points (s.Points.length - 1)).T)]), some (.box [I ((boxS s.Points s.Points.length).X1), I ((boxS s.Points s.Points.length).Y1), I ((boxS s.Points s.Points.length).X2), I ((boxS s.Points s.Points.length).Y2)])] [inR .i64 (((boxS s.Points s.Points.length).Y2) - ((boxS s.Points s.Points.length).Y1))] (by kernel_rfl) hB ⟨(inR_i64 (by omega) (by omega)), trivial⟩ ?_
  refine ae_then ?_
  refine aw_seq ?_
  refine aw_block ?_
  refine aw_seq ?_
  by_cases h1 : (sumS s.Points s.Points.length) ≤ 160
  · refine aw_reg [(1, .dec true)] [3, 4, 5, 7, 9, 10, 11, 12, 38] [9, 10, 11] [I (sumS s.Points s.Points.length), I ((revS s.Points s.Points.length).1), I (bendT s), I (strI s), .ref 9 0, .ref 10 0, .ref 11 0, I (((boxS s.Points s.Points.length).Y2) - ((boxS s.Points s.Points.length).Y1)), Bv true] [some (.box [I ((at_ s.Points 0).X), I ((at_ s.Points 0).Y), I ((at_ s.Points 0).T)]), some (.box [I ((at_ s.Points (s.Points.length - 1)).X), I ((at_ s.Points (s.Points.length - 1)).Y), I ((at_ s.Points (s.Points.length - 1)).T)]), some (.box [I ((boxS s.Points s.Points.length).X1), I ((boxS s.Points s.Points.length).Y1), I ((boxS s.Points s.Points.length).X2), I ((boxS s.Points s.Points.length).Y2)])] [(sumS s.Points s.Points.length) ≤ 160] (by kernel_rfl) hB ⟨h1, trivial⟩ ?_
    refine ae_then ?_
    refine aw_true rfl ?_
    refine aw_seq ?_
    refine aw_reg [] [2] [] [I 1] [] [] (by kernel_rfl) hB trivial ?_
    refine ae_then ?_
    refine aw_ret ?_
    refine ae_ret_block (ae_ret_then ?_)
    refine ae_ret hB (I 1) (by kernel_rfl) (.inl (by refine congrArg I ?_; unfold gestI endsI caretB; simp_all [hle]; try omega)) rfl (fun _ => trivial)
  · refine aw_reg [(1, .dec false)] [3, 4, 5, 7, 9, 10, 11, 12, 38] [9, 10, 11] [I (sumS s.Points s.Points.length), I ((revS s.Points s.Points.length).1), I (bendT s), I (strI s), .ref 9 0, .ref 10 0, .ref 11 0, I (((boxS s.Points s.Points.length).Y2) - ((boxS s.Points s.Points.length).Y1)), Bv false] [some (.box [I ((at_ s.Points 0).X), I ((at_ s.Points 0).Y), I ((at_ s.Points 0).T)]), some (.box [I ((at_ s.Points (s.Points.length - 1)).X), I ((at_ s.Points (s.Points.length - 1)).Y), I ((at_ s.Points (s.Points.length - 1)).T)]), some (.box [I ((boxS s.Points s.Points.length).X1), I ((boxS s.Points s.Points.length).Y1), I ((boxS s.Points s.Points.length).X2), I ((boxS s.Points s.Points.length).Y2)])] [¬ ((sumS s.Points s.Points.length) ≤ 160)] (by kernel_rfl) hB ⟨h1, trivial⟩ ?_
    refine ae_then ?_
    refine aw_false rfl ?_
    refine aw_seq ?_
    by_cases h2 : 3 ≤ ((revS s.Points s.Points.length).1)
    · refine aw_reg [(1, .dec true)] [3, 4, 5, 7, 9, 10, 11, 12, 41] [9, 10, 11] [I (sumS s.Points s.Points.length), I ((revS s.Points s.Points.length).1), I (bendT s), I (strI s), .ref 9 0, .ref 10 0, .ref 11 0, I (((boxS s.Points s.Points.length).Y2) - ((boxS s.Points s.Points.length).Y1)), Bv true] [some (.box [I ((at_ s.Points 0).X), I ((at_ s.Points 0).Y), I ((at_ s.Points 0).T)]), some (.box [I ((at_ s.Points (s.Points.length - 1)).X), I ((at_ s.Points (s.Points.length - 1)).Y), I ((at_ s.Points (s.Points.length - 1)).T)]), some (.box [I ((boxS s.Points s.Points.length).X1), I ((boxS s.Points s.Points.length).Y1), I ((boxS s.Points s.Points.length).X2), I ((boxS s.Points s.Points.length).Y2)])] [3 ≤ ((revS s.Points s.Points.length).1)] (by kernel_rfl) hB ⟨h2, trivial⟩ ?_
      refine ae_then ?_
      refine aw_true rfl ?_
      refine aw_seq ?_
      refine aw_reg [] [2] [] [I 2] [] [] (by kernel_rfl) hB trivial ?_
      refine ae_then ?_
      refine aw_ret ?_
      refine ae_ret_block (ae_ret_then ?_)
      refine ae_ret hB (I 2) (by kernel_rfl) (.inl (by refine congrArg I ?_; unfold gestI endsI caretB; simp_all [hle]; try omega)) rfl (fun _ => trivial)
    · refine aw_reg [(1, .dec false)] [3, 4, 5, 7, 9, 10, 11, 12, 41] [9, 10, 11] [I (sumS s.Points s.Points.length), I ((revS s.Points s.Points.length).1), I (bendT s), I (strI s), .ref 9 0, .ref 10 0, .ref 11 0, I (((boxS s.Points s.Points.length).Y2) - ((boxS s.Points s.Points.length).Y1)), Bv false] [some (.box [I ((at_ s.Points 0).X), I ((at_ s.Points 0).Y), I ((at_ s.Points 0).T)]), some (.box [I ((at_ s.Points (s.Points.length - 1)).X), I ((at_ s.Points (s.Points.length - 1)).Y), I ((at_ s.Points (s.Points.length - 1)).T)]), some (.box [I ((boxS s.Points s.Points.length).X1), I ((boxS s.Points s.Points.length).Y1), I ((boxS s.Points s.Points.length).X2), I ((boxS s.Points s.Points.length).Y2)])] [¬ (3 ≤ ((revS s.Points s.Points.length).1))] (by kernel_rfl) hB ⟨h2, trivial⟩ ?_
      refine ae_then ?_
      refine aw_false rfl ?_
      refine aw_seq ?_
      by_cases h3 : 6 ≤ ((bendT s).natAbs : Int)
      · by_cases h4 : (4 * (segI (at_ s.Points 0) (at_ s.Points (s.Points.length - 1)))) ≤ (sumS s.Points s.Points.length)
        · refine aw_reg [(1, .call [(true, I (bendT s))] true (I ((bendT s).natAbs : Int))), (2, .dec true), (6, .call [(true, .agg [I ((at_ s.Points 0).X), I ((at_ s.Points 0).Y), I ((at_ s.Points 0).T)]), (true, .agg [I ((at_ s.Points (s.Points.length - 1)).X), I ((at_ s.Points (s.Points.length - 1)).Y), I ((at_ s.Points (s.Points.length - 1)).T)])] true (I (segI (at_ s.Points 0) (at_ s.Points (s.Points.length - 1))))), (9, .dec true)] [4, 7, 9, 10, 11, 12, 44] [9, 10, 11] [I ((revS s.Points s.Points.length).1), I (strI s), .ref 9 0, .ref 10 0, .ref 11 0, I (((boxS s.Points s.Points.length).Y2) - ((boxS s.Points s.Points.length).Y1)), Bv true] [some (.box [I ((at_ s.Points 0).X), I ((at_ s.Points 0).Y), I ((at_ s.Points 0).T)]), some (.box [I ((at_ s.Points (s.Points.length - 1)).X), I ((at_ s.Points (s.Points.length - 1)).Y), I ((at_ s.Points (s.Points.length - 1)).T)]), some (.box [I ((boxS s.Points s.Points.length).X1), I ((boxS s.Points s.Points.length).Y1), I ((boxS s.Points s.Points.length).X2), I ((boxS s.Points s.Points.length).Y2)])] [Con Try.prog 57 [I (bendT s)] true (I ((bendT s).natAbs : Int)) ∧ ((I (bendT s) : AV) = I (bendT s)) ∧ True, 6 ≤ ((bendT s).natAbs : Int), Con Try.prog 123 [.agg [I ((at_ s.Points 0).X), I ((at_ s.Points 0).Y), I ((at_ s.Points 0).T)], .agg [I ((at_ s.Points (s.Points.length - 1)).X), I ((at_ s.Points (s.Points.length - 1)).Y), I ((at_ s.Points (s.Points.length - 1)).T)]] true (I (segI (at_ s.Points 0) (at_ s.Points (s.Points.length - 1)))) ∧ ((.agg [I ((at_ s.Points 0).X), I ((at_ s.Points 0).Y), I ((at_ s.Points 0).T)] : AV) = .agg [I ((at_ s.Points 0).X), I ((at_ s.Points 0).Y), I ((at_ s.Points 0).T)]) ∧ ((.agg [I ((at_ s.Points (s.Points.length - 1)).X), I ((at_ s.Points (s.Points.length - 1)).Y), I ((at_ s.Points (s.Points.length - 1)).T)] : AV) = .agg [I ((at_ s.Points (s.Points.length - 1)).X), I ((at_ s.Points (s.Points.length - 1)).Y), I ((at_ s.Points (s.Points.length - 1)).T)]) ∧ True, inR .i64 (4 * (segI (at_ s.Points 0) (at_ s.Points (s.Points.length - 1)))), (4 * (segI (at_ s.Points 0) (at_ s.Points (s.Points.length - 1)))) ≤ (sumS s.Points s.Points.length)] (by kernel_rfl) hB ⟨⟨(abs_ok (bendT s) (by omega)), rfl, trivial⟩, h3, ⟨(lengthOf_ok (at_ s.Points 0) (at_ s.Points (s.Points.length - 1)) (by assumption) (by assumption)), rfl, rfl, trivial⟩, (inR_i64 (by omega) (by omega)), h4, trivial⟩ ?_
          refine ae_then ?_
          refine aw_true rfl ?_
          refine aw_seq ?_
          refine aw_reg [] [2] [] [I 3] [] [] (by kernel_rfl) hB trivial ?_
          refine ae_then ?_
          refine aw_ret ?_
          refine ae_ret_block (ae_ret_then ?_)
          refine ae_ret hB (I 3) (by kernel_rfl) (.inl (by refine congrArg I ?_; unfold gestI endsI caretB; simp_all [hle]; try omega)) rfl (fun _ => trivial)
        · refine aw_reg [(1, .call [(true, I (bendT s))] true (I ((bendT s).natAbs : Int))), (2, .dec true), (6, .call [(true, .agg [I ((at_ s.Points 0).X), I ((at_ s.Points 0).Y), I ((at_ s.Points 0).T)]), (true, .agg [I ((at_ s.Points (s.Points.length - 1)).X), I ((at_ s.Points (s.Points.length - 1)).Y), I ((at_ s.Points (s.Points.length - 1)).T)])] true (I (segI (at_ s.Points 0) (at_ s.Points (s.Points.length - 1))))), (9, .dec false)] [4, 7, 9, 10, 11, 12, 44] [9, 10, 11] [I ((revS s.Points s.Points.length).1), I (strI s), .ref 9 0, .ref 10 0, .ref 11 0, I (((boxS s.Points s.Points.length).Y2) - ((boxS s.Points s.Points.length).Y1)), Bv false] [some (.box [I ((at_ s.Points 0).X), I ((at_ s.Points 0).Y), I ((at_ s.Points 0).T)]), some (.box [I ((at_ s.Points (s.Points.length - 1)).X), I ((at_ s.Points (s.Points.length - 1)).Y), I ((at_ s.Points (s.Points.length - 1)).T)]), some (.box [I ((boxS s.Points s.Points.length).X1), I ((boxS s.Points s.Points.length).Y1), I ((boxS s.Points s.Points.length).X2), I ((boxS s.Points s.Points.length).Y2)])] [Con Try.prog 57 [I (bendT s)] true (I ((bendT s).natAbs : Int)) ∧ ((I (bendT s) : AV) = I (bendT s)) ∧ True, 6 ≤ ((bendT s).natAbs : Int), Con Try.prog 123 [.agg [I ((at_ s.Points 0).X), I ((at_ s.Points 0).Y), I ((at_ s.Points 0).T)], .agg [I ((at_ s.Points (s.Points.length - 1)).X), I ((at_ s.Points (s.Points.length - 1)).Y), I ((at_ s.Points (s.Points.length - 1)).T)]] true (I (segI (at_ s.Points 0) (at_ s.Points (s.Points.length - 1)))) ∧ ((.agg [I ((at_ s.Points 0).X), I ((at_ s.Points 0).Y), I ((at_ s.Points 0).T)] : AV) = .agg [I ((at_ s.Points 0).X), I ((at_ s.Points 0).Y), I ((at_ s.Points 0).T)]) ∧ ((.agg [I ((at_ s.Points (s.Points.length - 1)).X), I ((at_ s.Points (s.Points.length - 1)).Y), I ((at_ s.Points (s.Points.length - 1)).T)] : AV) = .agg [I ((at_ s.Points (s.Points.length - 1)).X), I ((at_ s.Points (s.Points.length - 1)).Y), I ((at_ s.Points (s.Points.length - 1)).T)]) ∧ True, inR .i64 (4 * (segI (at_ s.Points 0) (at_ s.Points (s.Points.length - 1)))), ¬ ((4 * (segI (at_ s.Points 0) (at_ s.Points (s.Points.length - 1)))) ≤ (sumS s.Points s.Points.length))] (by kernel_rfl) hB ⟨⟨(abs_ok (bendT s) (by omega)), rfl, trivial⟩, h3, ⟨(lengthOf_ok (at_ s.Points 0) (at_ s.Points (s.Points.length - 1)) (by assumption) (by assumption)), rfl, rfl, trivial⟩, (inR_i64 (by omega) (by omega)), h4, trivial⟩ ?_
          refine ae_then ?_
          refine aw_false rfl ?_
          refine aw_seq ?_
          by_cases h5 : ((revS s.Points s.Points.length).1) = 0
          · by_cases h6 : 0 < (((boxS s.Points s.Points.length).Y2) - ((boxS s.Points s.Points.length).Y1))
            · by_cases h7 : (((boxS s.Points s.Points.length).Y2) - ((boxS s.Points s.Points.length).Y1)) ≤ (2 * (((at_ s.Points 0).Y) - ((boxS s.Points s.Points.length).Y1)))
              · by_cases h8 : (((boxS s.Points s.Points.length).Y2) - ((boxS s.Points s.Points.length).Y1)) ≤ (2 * (((at_ s.Points (s.Points.length - 1)).Y) - ((boxS s.Points s.Points.length).Y1)))
                · refine aw_reg [(1, .dec true), (4, .dec true), (14, .dec true), (24, .dec true)] [7, 56] [] [I (strI s), Bv true] [] [((revS s.Points s.Points.length).1) = 0, 0 < (((boxS s.Points s.Points.length).Y2) - ((boxS s.Points s.Points.length).Y1)), inR .i64 (((at_ s.Points 0).Y) - ((boxS s.Points s.Points.length).Y1)), inR .i64 (2 * (((at_ s.Points 0).Y) - ((boxS s.Points s.Points.length).Y1))), (((boxS s.Points s.Points.length).Y2) - ((boxS s.Points s.Points.length).Y1)) ≤ (2 * (((at_ s.Points 0).Y) - ((boxS s.Points s.Points.length).Y1))), inR .i64 (((at_ s.Points (s.Points.length - 1)).Y) - ((boxS s.Points s.Points.length).Y1)), inR .i64 (2 * (((at_ s.Points (s.Points.length - 1)).Y) - ((boxS s.Points s.Points.length).Y1))), (((boxS s.Points s.Points.length).Y2) - ((boxS s.Points s.Points.length).Y1)) ≤ (2 * (((at_ s.Points (s.Points.length - 1)).Y) - ((boxS s.Points s.Points.length).Y1)))] (by kernel_rfl) hB ⟨h5, h6, (inR_i64 (by omega) (by omega)), (inR_i64 (by omega) (by omega)), h7, (inR_i64 (by omega) (by omega)), (inR_i64 (by omega) (by omega)), h8, trivial⟩ ?_
                  refine ae_then ?_
                  refine aw_true rfl ?_
                  refine aw_seq ?_
                  refine aw_reg [] [2] [] [I 4] [] [] (by kernel_rfl) hB trivial ?_
                  refine ae_then ?_
                  refine aw_ret ?_
                  refine ae_ret_block (ae_ret_then ?_)
                  refine ae_ret hB (I 4) (by kernel_rfl) (.inl (by refine congrArg I ?_; unfold gestI endsI caretB; simp_all [hle]; try omega)) rfl (fun _ => trivial)
                · refine aw_reg [(1, .dec true), (4, .dec true), (14, .dec true), (24, .dec false)] [7, 56] [] [I (strI s), Bv false] [] [((revS s.Points s.Points.length).1) = 0, 0 < (((boxS s.Points s.Points.length).Y2) - ((boxS s.Points s.Points.length).Y1)), inR .i64 (((at_ s.Points 0).Y) - ((boxS s.Points s.Points.length).Y1)), inR .i64 (2 * (((at_ s.Points 0).Y) - ((boxS s.Points s.Points.length).Y1))), (((boxS s.Points s.Points.length).Y2) - ((boxS s.Points s.Points.length).Y1)) ≤ (2 * (((at_ s.Points 0).Y) - ((boxS s.Points s.Points.length).Y1))), inR .i64 (((at_ s.Points (s.Points.length - 1)).Y) - ((boxS s.Points s.Points.length).Y1)), inR .i64 (2 * (((at_ s.Points (s.Points.length - 1)).Y) - ((boxS s.Points s.Points.length).Y1))), ¬ ((((boxS s.Points s.Points.length).Y2) - ((boxS s.Points s.Points.length).Y1)) ≤ (2 * (((at_ s.Points (s.Points.length - 1)).Y) - ((boxS s.Points s.Points.length).Y1))))] (by kernel_rfl) hB ⟨h5, h6, (inR_i64 (by omega) (by omega)), (inR_i64 (by omega) (by omega)), h7, (inR_i64 (by omega) (by omega)), (inR_i64 (by omega) (by omega)), h8, trivial⟩ ?_
                  refine ae_then ?_
                  refine aw_false rfl ?_
                  refine aw_seq ?_
                  by_cases h9 : 900 ≤ (strI s)
                  · refine aw_reg [(1, .dec true)] [83] [] [Bv true] [] [900 ≤ (strI s)] (by kernel_rfl) hB ⟨h9, trivial⟩ ?_
                    refine ae_then ?_
                    refine aw_true rfl ?_
                    refine aw_seq ?_
                    refine aw_reg [] [2] [] [I 5] [] [] (by kernel_rfl) hB trivial ?_
                    refine ae_then ?_
                    refine aw_ret ?_
                    refine ae_ret_block (ae_ret_then ?_)
                    refine ae_ret hB (I 5) (by kernel_rfl) (.inl (by refine congrArg I ?_; unfold gestI endsI caretB; simp_all [hle]; try omega)) rfl (fun _ => trivial)
                  · refine aw_reg [(1, .dec false)] [83] [] [Bv false] [] [¬ (900 ≤ (strI s))] (by kernel_rfl) hB ⟨h9, trivial⟩ ?_
                    refine ae_then ?_
                    refine aw_false rfl ?_
                    refine aw_skip ?_
                    refine ae_block 0 ?_
                    refine ae_then ?_
                    refine aw_seq ?_
                    refine aw_reg [] [2] [] [I 0] [] [] (by kernel_rfl) hB trivial ?_
                    refine ae_then ?_
                    refine aw_ret ?_
                    refine ae_ret hB (I 0) (by kernel_rfl) (.inl (by refine congrArg I ?_; unfold gestI endsI caretB; simp_all [hle]; try omega)) rfl (fun _ => trivial)
              · refine aw_reg [(1, .dec true), (4, .dec true), (14, .dec false)] [7, 56] [] [I (strI s), Bv false] [] [((revS s.Points s.Points.length).1) = 0, 0 < (((boxS s.Points s.Points.length).Y2) - ((boxS s.Points s.Points.length).Y1)), inR .i64 (((at_ s.Points 0).Y) - ((boxS s.Points s.Points.length).Y1)), inR .i64 (2 * (((at_ s.Points 0).Y) - ((boxS s.Points s.Points.length).Y1))), ¬ ((((boxS s.Points s.Points.length).Y2) - ((boxS s.Points s.Points.length).Y1)) ≤ (2 * (((at_ s.Points 0).Y) - ((boxS s.Points s.Points.length).Y1))))] (by kernel_rfl) hB ⟨h5, h6, (inR_i64 (by omega) (by omega)), (inR_i64 (by omega) (by omega)), h7, trivial⟩ ?_
                refine ae_then ?_
                refine aw_false rfl ?_
                refine aw_seq ?_
                by_cases h10 : 900 ≤ (strI s)
                · refine aw_reg [(1, .dec true)] [83] [] [Bv true] [] [900 ≤ (strI s)] (by kernel_rfl) hB ⟨h10, trivial⟩ ?_
                  refine ae_then ?_
                  refine aw_true rfl ?_
                  refine aw_seq ?_
                  refine aw_reg [] [2] [] [I 5] [] [] (by kernel_rfl) hB trivial ?_
                  refine ae_then ?_
                  refine aw_ret ?_
                  refine ae_ret_block (ae_ret_then ?_)
                  refine ae_ret hB (I 5) (by kernel_rfl) (.inl (by refine congrArg I ?_; unfold gestI endsI caretB; simp_all [hle]; try omega)) rfl (fun _ => trivial)
                · refine aw_reg [(1, .dec false)] [83] [] [Bv false] [] [¬ (900 ≤ (strI s))] (by kernel_rfl) hB ⟨h10, trivial⟩ ?_
                  refine ae_then ?_
                  refine aw_false rfl ?_
                  refine aw_skip ?_
                  refine ae_block 0 ?_
                  refine ae_then ?_
                  refine aw_seq ?_
                  refine aw_reg [] [2] [] [I 0] [] [] (by kernel_rfl) hB trivial ?_
                  refine ae_then ?_
                  refine aw_ret ?_
                  refine ae_ret hB (I 0) (by kernel_rfl) (.inl (by refine congrArg I ?_; unfold gestI endsI caretB; simp_all [hle]; try omega)) rfl (fun _ => trivial)
            · refine aw_reg [(1, .dec true), (4, .dec false)] [7, 56] [] [I (strI s), Bv false] [] [((revS s.Points s.Points.length).1) = 0, ¬ (0 < (((boxS s.Points s.Points.length).Y2) - ((boxS s.Points s.Points.length).Y1)))] (by kernel_rfl) hB ⟨h5, h6, trivial⟩ ?_
              refine ae_then ?_
              refine aw_false rfl ?_
              refine aw_seq ?_
              by_cases h11 : 900 ≤ (strI s)
              · refine aw_reg [(1, .dec true)] [83] [] [Bv true] [] [900 ≤ (strI s)] (by kernel_rfl) hB ⟨h11, trivial⟩ ?_
                refine ae_then ?_
                refine aw_true rfl ?_
                refine aw_seq ?_
                refine aw_reg [] [2] [] [I 5] [] [] (by kernel_rfl) hB trivial ?_
                refine ae_then ?_
                refine aw_ret ?_
                refine ae_ret_block (ae_ret_then ?_)
                refine ae_ret hB (I 5) (by kernel_rfl) (.inl (by refine congrArg I ?_; unfold gestI endsI caretB; simp_all [hle]; try omega)) rfl (fun _ => trivial)
              · refine aw_reg [(1, .dec false)] [83] [] [Bv false] [] [¬ (900 ≤ (strI s))] (by kernel_rfl) hB ⟨h11, trivial⟩ ?_
                refine ae_then ?_
                refine aw_false rfl ?_
                refine aw_skip ?_
                refine ae_block 0 ?_
                refine ae_then ?_
                refine aw_seq ?_
                refine aw_reg [] [2] [] [I 0] [] [] (by kernel_rfl) hB trivial ?_
                refine ae_then ?_
                refine aw_ret ?_
                refine ae_ret hB (I 0) (by kernel_rfl) (.inl (by refine congrArg I ?_; unfold gestI endsI caretB; simp_all [hle]; try omega)) rfl (fun _ => trivial)
          · refine aw_reg [(1, .dec false)] [7, 56] [] [I (strI s), Bv false] [] [¬ (((revS s.Points s.Points.length).1) = 0)] (by kernel_rfl) hB ⟨h5, trivial⟩ ?_
            refine ae_then ?_
            refine aw_false rfl ?_
            refine aw_seq ?_
            by_cases h12 : 900 ≤ (strI s)
            · refine aw_reg [(1, .dec true)] [83] [] [Bv true] [] [900 ≤ (strI s)] (by kernel_rfl) hB ⟨h12, trivial⟩ ?_
              refine ae_then ?_
              refine aw_true rfl ?_
              refine aw_seq ?_
              refine aw_reg [] [2] [] [I 5] [] [] (by kernel_rfl) hB trivial ?_
              refine ae_then ?_
              refine aw_ret ?_
              refine ae_ret_block (ae_ret_then ?_)
              refine ae_ret hB (I 5) (by kernel_rfl) (.inl (by refine congrArg I ?_; unfold gestI endsI caretB; simp_all [hle]; try omega)) rfl (fun _ => trivial)
            · refine aw_reg [(1, .dec false)] [83] [] [Bv false] [] [¬ (900 ≤ (strI s))] (by kernel_rfl) hB ⟨h12, trivial⟩ ?_
              refine ae_then ?_
              refine aw_false rfl ?_
              refine aw_skip ?_
              refine ae_block 0 ?_
              refine ae_then ?_
              refine aw_seq ?_
              refine aw_reg [] [2] [] [I 0] [] [] (by kernel_rfl) hB trivial ?_
              refine ae_then ?_
              refine aw_ret ?_
              refine ae_ret hB (I 0) (by kernel_rfl) (.inl (by refine congrArg I ?_; unfold gestI endsI caretB; simp_all [hle]; try omega)) rfl (fun _ => trivial)
      · refine aw_reg [(1, .call [(true, I (bendT s))] true (I ((bendT s).natAbs : Int))), (2, .dec false)] [4, 7, 9, 10, 11, 12, 44] [9, 10, 11] [I ((revS s.Points s.Points.length).1), I (strI s), .ref 9 0, .ref 10 0, .ref 11 0, I (((boxS s.Points s.Points.length).Y2) - ((boxS s.Points s.Points.length).Y1)), Bv false] [some (.box [I ((at_ s.Points 0).X), I ((at_ s.Points 0).Y), I ((at_ s.Points 0).T)]), some (.box [I ((at_ s.Points (s.Points.length - 1)).X), I ((at_ s.Points (s.Points.length - 1)).Y), I ((at_ s.Points (s.Points.length - 1)).T)]), some (.box [I ((boxS s.Points s.Points.length).X1), I ((boxS s.Points s.Points.length).Y1), I ((boxS s.Points s.Points.length).X2), I ((boxS s.Points s.Points.length).Y2)])] [Con Try.prog 57 [I (bendT s)] true (I ((bendT s).natAbs : Int)) ∧ ((I (bendT s) : AV) = I (bendT s)) ∧ True, ¬ (6 ≤ ((bendT s).natAbs : Int))] (by kernel_rfl) hB ⟨⟨(abs_ok (bendT s) (by omega)), rfl, trivial⟩, h3, trivial⟩ ?_
        refine ae_then ?_
        refine aw_false rfl ?_
        refine aw_seq ?_
        by_cases h13 : ((revS s.Points s.Points.length).1) = 0
        · by_cases h14 : 0 < (((boxS s.Points s.Points.length).Y2) - ((boxS s.Points s.Points.length).Y1))
          · by_cases h15 : (((boxS s.Points s.Points.length).Y2) - ((boxS s.Points s.Points.length).Y1)) ≤ (2 * (((at_ s.Points 0).Y) - ((boxS s.Points s.Points.length).Y1)))
            · by_cases h16 : (((boxS s.Points s.Points.length).Y2) - ((boxS s.Points s.Points.length).Y1)) ≤ (2 * (((at_ s.Points (s.Points.length - 1)).Y) - ((boxS s.Points s.Points.length).Y1)))
              · refine aw_reg [(1, .dec true), (4, .dec true), (14, .dec true), (24, .dec true)] [7, 56] [] [I (strI s), Bv true] [] [((revS s.Points s.Points.length).1) = 0, 0 < (((boxS s.Points s.Points.length).Y2) - ((boxS s.Points s.Points.length).Y1)), inR .i64 (((at_ s.Points 0).Y) - ((boxS s.Points s.Points.length).Y1)), inR .i64 (2 * (((at_ s.Points 0).Y) - ((boxS s.Points s.Points.length).Y1))), (((boxS s.Points s.Points.length).Y2) - ((boxS s.Points s.Points.length).Y1)) ≤ (2 * (((at_ s.Points 0).Y) - ((boxS s.Points s.Points.length).Y1))), inR .i64 (((at_ s.Points (s.Points.length - 1)).Y) - ((boxS s.Points s.Points.length).Y1)), inR .i64 (2 * (((at_ s.Points (s.Points.length - 1)).Y) - ((boxS s.Points s.Points.length).Y1))), (((boxS s.Points s.Points.length).Y2) - ((boxS s.Points s.Points.length).Y1)) ≤ (2 * (((at_ s.Points (s.Points.length - 1)).Y) - ((boxS s.Points s.Points.length).Y1)))] (by kernel_rfl) hB ⟨h13, h14, (inR_i64 (by omega) (by omega)), (inR_i64 (by omega) (by omega)), h15, (inR_i64 (by omega) (by omega)), (inR_i64 (by omega) (by omega)), h16, trivial⟩ ?_
                refine ae_then ?_
                refine aw_true rfl ?_
                refine aw_seq ?_
                refine aw_reg [] [2] [] [I 4] [] [] (by kernel_rfl) hB trivial ?_
                refine ae_then ?_
                refine aw_ret ?_
                refine ae_ret_block (ae_ret_then ?_)
                refine ae_ret hB (I 4) (by kernel_rfl) (.inl (by refine congrArg I ?_; unfold gestI endsI caretB; simp_all [hle]; try omega)) rfl (fun _ => trivial)
              · refine aw_reg [(1, .dec true), (4, .dec true), (14, .dec true), (24, .dec false)] [7, 56] [] [I (strI s), Bv false] [] [((revS s.Points s.Points.length).1) = 0, 0 < (((boxS s.Points s.Points.length).Y2) - ((boxS s.Points s.Points.length).Y1)), inR .i64 (((at_ s.Points 0).Y) - ((boxS s.Points s.Points.length).Y1)), inR .i64 (2 * (((at_ s.Points 0).Y) - ((boxS s.Points s.Points.length).Y1))), (((boxS s.Points s.Points.length).Y2) - ((boxS s.Points s.Points.length).Y1)) ≤ (2 * (((at_ s.Points 0).Y) - ((boxS s.Points s.Points.length).Y1))), inR .i64 (((at_ s.Points (s.Points.length - 1)).Y) - ((boxS s.Points s.Points.length).Y1)), inR .i64 (2 * (((at_ s.Points (s.Points.length - 1)).Y) - ((boxS s.Points s.Points.length).Y1))), ¬ ((((boxS s.Points s.Points.length).Y2) - ((boxS s.Points s.Points.length).Y1)) ≤ (2 * (((at_ s.Points (s.Points.length - 1)).Y) - ((boxS s.Points s.Points.length).Y1))))] (by kernel_rfl) hB ⟨h13, h14, (inR_i64 (by omega) (by omega)), (inR_i64 (by omega) (by omega)), h15, (inR_i64 (by omega) (by omega)), (inR_i64 (by omega) (by omega)), h16, trivial⟩ ?_
                refine ae_then ?_
                refine aw_false rfl ?_
                refine aw_seq ?_
                by_cases h17 : 900 ≤ (strI s)
                · refine aw_reg [(1, .dec true)] [83] [] [Bv true] [] [900 ≤ (strI s)] (by kernel_rfl) hB ⟨h17, trivial⟩ ?_
                  refine ae_then ?_
                  refine aw_true rfl ?_
                  refine aw_seq ?_
                  refine aw_reg [] [2] [] [I 5] [] [] (by kernel_rfl) hB trivial ?_
                  refine ae_then ?_
                  refine aw_ret ?_
                  refine ae_ret_block (ae_ret_then ?_)
                  refine ae_ret hB (I 5) (by kernel_rfl) (.inl (by refine congrArg I ?_; unfold gestI endsI caretB; simp_all [hle]; try omega)) rfl (fun _ => trivial)
                · refine aw_reg [(1, .dec false)] [83] [] [Bv false] [] [¬ (900 ≤ (strI s))] (by kernel_rfl) hB ⟨h17, trivial⟩ ?_
                  refine ae_then ?_
                  refine aw_false rfl ?_
                  refine aw_skip ?_
                  refine ae_block 0 ?_
                  refine ae_then ?_
                  refine aw_seq ?_
                  refine aw_reg [] [2] [] [I 0] [] [] (by kernel_rfl) hB trivial ?_
                  refine ae_then ?_
                  refine aw_ret ?_
                  refine ae_ret hB (I 0) (by kernel_rfl) (.inl (by refine congrArg I ?_; unfold gestI endsI caretB; simp_all [hle]; try omega)) rfl (fun _ => trivial)
            · refine aw_reg [(1, .dec true), (4, .dec true), (14, .dec false)] [7, 56] [] [I (strI s), Bv false] [] [((revS s.Points s.Points.length).1) = 0, 0 < (((boxS s.Points s.Points.length).Y2) - ((boxS s.Points s.Points.length).Y1)), inR .i64 (((at_ s.Points 0).Y) - ((boxS s.Points s.Points.length).Y1)), inR .i64 (2 * (((at_ s.Points 0).Y) - ((boxS s.Points s.Points.length).Y1))), ¬ ((((boxS s.Points s.Points.length).Y2) - ((boxS s.Points s.Points.length).Y1)) ≤ (2 * (((at_ s.Points 0).Y) - ((boxS s.Points s.Points.length).Y1))))] (by kernel_rfl) hB ⟨h13, h14, (inR_i64 (by omega) (by omega)), (inR_i64 (by omega) (by omega)), h15, trivial⟩ ?_
              refine ae_then ?_
              refine aw_false rfl ?_
              refine aw_seq ?_
              by_cases h18 : 900 ≤ (strI s)
              · refine aw_reg [(1, .dec true)] [83] [] [Bv true] [] [900 ≤ (strI s)] (by kernel_rfl) hB ⟨h18, trivial⟩ ?_
                refine ae_then ?_
                refine aw_true rfl ?_
                refine aw_seq ?_
                refine aw_reg [] [2] [] [I 5] [] [] (by kernel_rfl) hB trivial ?_
                refine ae_then ?_
                refine aw_ret ?_
                refine ae_ret_block (ae_ret_then ?_)
                refine ae_ret hB (I 5) (by kernel_rfl) (.inl (by refine congrArg I ?_; unfold gestI endsI caretB; simp_all [hle]; try omega)) rfl (fun _ => trivial)
              · refine aw_reg [(1, .dec false)] [83] [] [Bv false] [] [¬ (900 ≤ (strI s))] (by kernel_rfl) hB ⟨h18, trivial⟩ ?_
                refine ae_then ?_
                refine aw_false rfl ?_
                refine aw_skip ?_
                refine ae_block 0 ?_
                refine ae_then ?_
                refine aw_seq ?_
                refine aw_reg [] [2] [] [I 0] [] [] (by kernel_rfl) hB trivial ?_
                refine ae_then ?_
                refine aw_ret ?_
                refine ae_ret hB (I 0) (by kernel_rfl) (.inl (by refine congrArg I ?_; unfold gestI endsI caretB; simp_all [hle]; try omega)) rfl (fun _ => trivial)
          · refine aw_reg [(1, .dec true), (4, .dec false)] [7, 56] [] [I (strI s), Bv false] [] [((revS s.Points s.Points.length).1) = 0, ¬ (0 < (((boxS s.Points s.Points.length).Y2) - ((boxS s.Points s.Points.length).Y1)))] (by kernel_rfl) hB ⟨h13, h14, trivial⟩ ?_
            refine ae_then ?_
            refine aw_false rfl ?_
            refine aw_seq ?_
            by_cases h19 : 900 ≤ (strI s)
            · refine aw_reg [(1, .dec true)] [83] [] [Bv true] [] [900 ≤ (strI s)] (by kernel_rfl) hB ⟨h19, trivial⟩ ?_
              refine ae_then ?_
              refine aw_true rfl ?_
              refine aw_seq ?_
              refine aw_reg [] [2] [] [I 5] [] [] (by kernel_rfl) hB trivial ?_
              refine ae_then ?_
              refine aw_ret ?_
              refine ae_ret_block (ae_ret_then ?_)
              refine ae_ret hB (I 5) (by kernel_rfl) (.inl (by refine congrArg I ?_; unfold gestI endsI caretB; simp_all [hle]; try omega)) rfl (fun _ => trivial)
            · refine aw_reg [(1, .dec false)] [83] [] [Bv false] [] [¬ (900 ≤ (strI s))] (by kernel_rfl) hB ⟨h19, trivial⟩ ?_
              refine ae_then ?_
              refine aw_false rfl ?_
              refine aw_skip ?_
              refine ae_block 0 ?_
              refine ae_then ?_
              refine aw_seq ?_
              refine aw_reg [] [2] [] [I 0] [] [] (by kernel_rfl) hB trivial ?_
              refine ae_then ?_
              refine aw_ret ?_
              refine ae_ret hB (I 0) (by kernel_rfl) (.inl (by refine congrArg I ?_; unfold gestI endsI caretB; simp_all [hle]; try omega)) rfl (fun _ => trivial)
        · refine aw_reg [(1, .dec false)] [7, 56] [] [I (strI s), Bv false] [] [¬ (((revS s.Points s.Points.length).1) = 0)] (by kernel_rfl) hB ⟨h13, trivial⟩ ?_
          refine ae_then ?_
          refine aw_false rfl ?_
          refine aw_seq ?_
          by_cases h20 : 900 ≤ (strI s)
          · refine aw_reg [(1, .dec true)] [83] [] [Bv true] [] [900 ≤ (strI s)] (by kernel_rfl) hB ⟨h20, trivial⟩ ?_
            refine ae_then ?_
            refine aw_true rfl ?_
            refine aw_seq ?_
            refine aw_reg [] [2] [] [I 5] [] [] (by kernel_rfl) hB trivial ?_
            refine ae_then ?_
            refine aw_ret ?_
            refine ae_ret_block (ae_ret_then ?_)
            refine ae_ret hB (I 5) (by kernel_rfl) (.inl (by refine congrArg I ?_; unfold gestI endsI caretB; simp_all [hle]; try omega)) rfl (fun _ => trivial)
          · refine aw_reg [(1, .dec false)] [83] [] [Bv false] [] [¬ (900 ≤ (strI s))] (by kernel_rfl) hB ⟨h20, trivial⟩ ?_
            refine ae_then ?_
            refine aw_false rfl ?_
            refine aw_skip ?_
            refine ae_block 0 ?_
            refine ae_then ?_
            refine aw_seq ?_
            refine aw_reg [] [2] [] [I 0] [] [] (by kernel_rfl) hB trivial ?_
            refine ae_then ?_
            refine aw_ret ?_
            refine ae_ret hB (I 0) (by kernel_rfl) (.inl (by refine congrArg I ?_; unfold gestI endsI caretB; simp_all [hle]; try omega)) rfl (fun _ => trivial)


-- impl.GestureOf
theorem implGestureOf_ok (s : Stroke) : Con Try.prog 34 [.agg [slPoint false s.Points]] true (.tup [I ((gestR s).1), I ((gestR s).2)]) := by
  refine fn_ok (fn := Try.f34) (nt := 9) Try.func34 rfl rfl rfl rfl (by simp [taggedL, tagged, tagPoint]) fun B hB => ?_
  refine aw_lens (x := .agg [slPoint false s.Points]) 0 rfl (fun len_s => ?_)
  simp [LenOK, LenL, cPoint, fPoint, slPoint] at len_s
  refine aw_seq ?_
  refine aw_reg [(0, .new 1)] [1] [1] [.ref 1 0] [some (.box [slPoint false s.Points])] [] (by kernel_rfl) hB trivial ?_
  refine ae_then ?_
  refine aw_seq ?_
  refine aw_seq ?_
  rcases Bool.eq_false_or_eq_true (okStroke' s) with h1 | h1
  · refine aw_reg [(1, .call [(true, .agg [slPoint false s.Points])] true (Bv true))] [1, 6] [1] [.ref 1 0, Bv false] [some (.box [slPoint false s.Points])] [Con Try.prog 74 [.agg [slPoint false s.Points]] true (Bv true) ∧ ((.agg [slPoint false s.Points] : AV) = .agg [slPoint false s.Points]) ∧ True] (by kernel_rfl) hB ⟨⟨(con_bool h1 (ValidStroke_ok s)), rfl, trivial⟩, trivial⟩ ?_
    refine ae_then ?_
    refine aw_false rfl ?_
    refine aw_skip ?_
    refine ae_then ?_
    refine aw_seq ?_
    refine aw_reg [(1, .call [(true, .agg [slPoint false s.Points])] true (I (gestI s)))] [2, 3] [] [I (gestI s), I 0] [] [Con Try.prog 75 [.agg [slPoint false s.Points]] true (I (gestI s)) ∧ ((.agg [slPoint false s.Points] : AV) = .agg [slPoint false s.Points]) ∧ True] (by kernel_rfl) hB ⟨⟨(gestureOf_ok s (by assumption)), rfl, trivial⟩, trivial⟩ ?_
    refine ae_then ?_
    refine aw_ret ?_
    refine ae_ret hB (.tup [I (gestI s), I 0]) (by kernel_rfl) (.inl (by simp [gestR, *])) rfl (fun _ => (by simp [tagged, taggedL]))
  · refine aw_reg [(1, .call [(true, .agg [slPoint false s.Points])] true (Bv false))] [1, 6] [1] [.ref 1 0, Bv true] [some (.box [slPoint false s.Points])] [Con Try.prog 74 [.agg [slPoint false s.Points]] true (Bv false) ∧ ((.agg [slPoint false s.Points] : AV) = .agg [slPoint false s.Points]) ∧ True] (by kernel_rfl) hB ⟨⟨(con_bool h1 (ValidStroke_ok s)), rfl, trivial⟩, trivial⟩ ?_
    refine ae_then ?_
    refine aw_true rfl ?_
    refine aw_seq ?_
    refine aw_reg [] [2, 3] [] [I 0, I 1] [] [] (by kernel_rfl) hB trivial ?_
    refine ae_then ?_
    refine aw_ret ?_
    refine ae_ret_then ?_
    refine ae_ret hB (.tup [I 0, I 1]) (by kernel_rfl) (.inl (by simp [gestR, *])) rfl (fun _ => (by simp [tagged, taggedL]))


-- laws.eqPoint
theorem eqPoint_ok (a : Point) (b : Point) : Con Try.prog 124 [.agg [I a.X, I a.Y, I a.T], .agg [I b.X, I b.Y, I b.T]] true (Bv (same a b)) := by
  refine fn_ok (fn := Try.f124) (nt := 20) Try.func124 rfl rfl rfl rfl (by simp [taggedL, tagged]) fun B hB => ?_
  refine aw_seq ?_
  refine aw_reg [(0, .new 2), (1, .new 3)] [2, 3] [2, 3] [.ref 2 0, .ref 3 0] [some (.box [I a.X, I a.Y, I a.T]), some (.box [I b.X, I b.Y, I b.T])] [] (by kernel_rfl) hB trivial ?_
  refine ae_then ?_
  refine aw_seq ?_
  refine aw_seq ?_
  by_cases h1 : a.X = b.X
  · refine aw_reg [(4, .dec false)] [2, 3, 9] [2, 3] [.ref 2 0, .ref 3 0, Bv false] [some (.box [I a.X, I a.Y, I a.T]), some (.box [I b.X, I b.Y, I b.T])] [¬ (a.X ≠ b.X)] (by kernel_rfl) hB ⟨(fun hq => hq h1), trivial⟩ ?_
    refine ae_then ?_
    refine aw_false rfl ?_
    refine aw_skip ?_
    refine ae_then ?_
    refine aw_seq ?_
    refine aw_seq ?_
    by_cases h2 : a.Y = b.Y
    · refine aw_reg [(4, .dec false)] [2, 3, 14] [2, 3] [.ref 2 0, .ref 3 0, Bv false] [some (.box [I a.X, I a.Y, I a.T]), some (.box [I b.X, I b.Y, I b.T])] [¬ (a.Y ≠ b.Y)] (by kernel_rfl) hB ⟨(fun hq => hq h2), trivial⟩ ?_
      refine ae_then ?_
      refine aw_false rfl ?_
      refine aw_skip ?_
      refine ae_then ?_
      refine aw_seq ?_
      refine aw_seq ?_
      by_cases h3 : a.T = b.T
      · refine aw_reg [(4, .dec false)] [19] [] [Bv false] [] [¬ (a.T ≠ b.T)] (by kernel_rfl) hB ⟨(fun hq => hq h3), trivial⟩ ?_
        refine ae_then ?_
        refine aw_false rfl ?_
        refine aw_skip ?_
        refine ae_then ?_
        refine aw_seq ?_
        refine aw_reg [] [4] [] [Bv true] [] [] (by kernel_rfl) hB trivial ?_
        refine ae_then ?_
        refine aw_ret ?_
        refine ae_ret hB (Bv true) (by kernel_rfl) (.inl (by first | (cases a; cases b; simp_all [same]; done) | (cases a; cases b; simp_all [same]; omega))) rfl (fun _ => trivial)
      · refine aw_reg [(4, .dec true)] [19] [] [Bv true] [] [a.T ≠ b.T] (by kernel_rfl) hB ⟨h3, trivial⟩ ?_
        refine ae_then ?_
        refine aw_true rfl ?_
        refine aw_seq ?_
        refine aw_reg [] [4] [] [Bv false] [] [] (by kernel_rfl) hB trivial ?_
        refine ae_then ?_
        refine aw_ret ?_
        refine ae_ret_then ?_
        refine ae_ret hB (Bv false) (by kernel_rfl) (.inl (by first | (cases a; cases b; simp_all [same]; done) | (cases a; cases b; simp_all [same]; omega))) rfl (fun _ => trivial)
    · refine aw_reg [(4, .dec true)] [2, 3, 14] [2, 3] [.ref 2 0, .ref 3 0, Bv true] [some (.box [I a.X, I a.Y, I a.T]), some (.box [I b.X, I b.Y, I b.T])] [a.Y ≠ b.Y] (by kernel_rfl) hB ⟨h2, trivial⟩ ?_
      refine ae_then ?_
      refine aw_true rfl ?_
      refine aw_seq ?_
      refine aw_reg [] [4] [] [Bv false] [] [] (by kernel_rfl) hB trivial ?_
      refine ae_then ?_
      refine aw_ret ?_
      refine ae_ret_then ?_
      refine ae_ret hB (Bv false) (by kernel_rfl) (.inl (by first | (cases a; cases b; simp_all [same]; done) | (cases a; cases b; simp_all [same]; omega))) rfl (fun _ => trivial)
  · refine aw_reg [(4, .dec true)] [2, 3, 9] [2, 3] [.ref 2 0, .ref 3 0, Bv true] [some (.box [I a.X, I a.Y, I a.T]), some (.box [I b.X, I b.Y, I b.T])] [a.X ≠ b.X] (by kernel_rfl) hB ⟨h1, trivial⟩ ?_
    refine ae_then ?_
    refine aw_true rfl ?_
    refine aw_seq ?_
    refine aw_reg [] [4] [] [Bv false] [] [] (by kernel_rfl) hB trivial ?_
    refine ae_then ?_
    refine aw_ret ?_
    refine ae_ret_then ?_
    refine ae_ret hB (Bv false) (by kernel_rfl) (.inl (by first | (cases a; cases b; simp_all [same]; done) | (cases a; cases b; simp_all [same]; omega))) rfl (fun _ => trivial)


-- laws.eqPointS
theorem eqPointS_ok (a : List Point) (b : List Point) : Con Try.prog 76 [slPoint false a, slPoint false b] true (Bv (same a b)) := by
  refine fn_ok (fn := Try.f76) (nt := 27) Try.func76 rfl rfl rfl rfl (by simp [taggedL, tagged, tagPoint]) fun B hB => ?_
  refine aw_lens (x := slPoint false a) 0 rfl (fun len_a => ?_)
  simp [LenOK, LenL, cPoint, fPoint, slPoint] at len_a
  refine aw_lens (x := slPoint false b) 1 rfl (fun len_b => ?_)
  simp [LenOK, LenL, cPoint, fPoint, slPoint] at len_b
  refine aw_seq ?_
  refine aw_reg [] [0, 1] [] [slPoint false a, slPoint false b] [] [] (by kernel_rfl) hB trivial ?_
  refine ae_then ?_
  refine aw_seq ?_
  refine aw_seq ?_
  by_cases h1 : (a.length : Int) = (b.length : Int)
  · refine aw_reg [(4, .dec false)] [0, 1, 10] [] [slPoint false a, slPoint false b, Bv false] [] [¬ ((a.length : Int) ≠ (b.length : Int))] (by kernel_rfl) hB ⟨(fun hq => hq h1), trivial⟩ ?_
    refine ae_then ?_
    refine aw_false rfl ?_
    refine aw_skip ?_
    refine ae_then ?_
    refine aw_seq ?_
    refine aw_seq ?_
    refine aw_reg [] [0, 1, 5] [] [slPoint false a, slPoint false b, I 0] [] [] (by kernel_rfl) hB trivial ?_
    refine ae_then ?_
    refine aw_block ?_
    refine aw_loop (fun gn gσ => ∃ (i : Int), gn = ((a.length : Int) - i).toNat ∧ (0 ≤ i ∧ i ≤ (a.length : Int)) ∧ (∀ j : Nat, (j : Int) < i → at_ a j = at_ b j) ∧ gσ = mkS [(0, slPoint false a), (1, slPoint false b), (5, I i)] []) (((a.length : Int) - 0).toNat) ⟨0, rfl, (by omega), (by intro j hj; omega), rfl⟩ (fun gn gσ hI => ?_)
    obtain ⟨i, rfl, hi0, he0, rfl⟩ := hI
    refine aw_seq ?_
    refine aw_seq ?_
    by_cases h2 : i < (a.length : Int)
    · have hi : i.toNat < a.length := by omega
      have hib : i.toNat < b.length := by omega
      refine aw_reg [(3, .dec true)] [0, 1, 5, 14] [] [slPoint false a, slPoint false b, I i, Bv true] [] [i < (a.length : Int)] (by kernel_rfl) hB ⟨h2, trivial⟩ ?_
      refine ae_then ?_
      refine aw_true rfl ?_
      refine aw_skip ?_
      refine ae_then ?_
      refine aw_seq ?_
      refine aw_block ?_
      refine aw_seq ?_
      rcases Bool.eq_false_or_eq_true (same (at_ a i.toNat) (at_ b i.toNat)) with h3 | h3
      · have HEQ := h3
        refine aw_reg [(8, .call [(true, .agg [I ((at_ a i.toNat).X), I ((at_ a i.toNat).Y), I ((at_ a i.toNat).T)]), (true, .agg [I ((at_ b i.toNat).X), I ((at_ b i.toNat).Y), I ((at_ b i.toNat).T)])] true (Bv true))] [0, 1, 5, 26] [] [slPoint false a, slPoint false b, I i, Bv false] [] [(0 : Int) ≤ i ∧ i < (a.length : Int), (0 : Int) ≤ i ∧ i < (b.length : Int), Con Try.prog 124 [.agg [I ((at_ a i.toNat).X), I ((at_ a i.toNat).Y), I ((at_ a i.toNat).T)], .agg [I ((at_ b i.toNat).X), I ((at_ b i.toNat).Y), I ((at_ b i.toNat).T)]] true (Bv true) ∧ ((.agg [I ((at_ a i.toNat).X), I ((at_ a i.toNat).Y), I ((at_ a i.toNat).T)] : AV) = .agg [I ((at_ a i.toNat).X), I ((at_ a i.toNat).Y), I ((at_ a i.toNat).T)]) ∧ ((.agg [I ((at_ b i.toNat).X), I ((at_ b i.toNat).Y), I ((at_ b i.toNat).T)] : AV) = .agg [I ((at_ b i.toNat).X), I ((at_ b i.toNat).Y), I ((at_ b i.toNat).T)]) ∧ True] (by kernel_rfl) hB ⟨⟨(by omega), (by omega)⟩, ⟨(by omega), (by omega)⟩, ⟨(con_bool h3 (eqPoint_ok (at_ a i.toNat) (at_ b i.toNat))), rfl, rfl, trivial⟩, trivial⟩ ?_
        refine ae_then ?_
        refine aw_false rfl ?_
        refine aw_skip ?_
        refine ae_block 1 ?_
        refine ae_then ?_
        refine aw_reg [] [0, 1, 5] [] [slPoint false a, slPoint false b, I (i + 1)] [] [inR .i64 (i + 1)] (by kernel_rfl) hB ⟨(inR_i64 (by omega) (by omega)), trivial⟩ ?_
        exact ae_again _ (by omega) ⟨(i + 1), rfl, (by omega), (by intro j hj; by_cases ej : j = i.toNat; (subst ej; simpa [same] using HEQ); exact he0 j (by omega)), rfl⟩
      · refine aw_reg [(8, .call [(true, .agg [I ((at_ a i.toNat).X), I ((at_ a i.toNat).Y), I ((at_ a i.toNat).T)]), (true, .agg [I ((at_ b i.toNat).X), I ((at_ b i.toNat).Y), I ((at_ b i.toNat).T)])] true (Bv false))] [0, 1, 5, 26] [] [slPoint false a, slPoint false b, I i, Bv true] [] [(0 : Int) ≤ i ∧ i < (a.length : Int), (0 : Int) ≤ i ∧ i < (b.length : Int), Con Try.prog 124 [.agg [I ((at_ a i.toNat).X), I ((at_ a i.toNat).Y), I ((at_ a i.toNat).T)], .agg [I ((at_ b i.toNat).X), I ((at_ b i.toNat).Y), I ((at_ b i.toNat).T)]] true (Bv false) ∧ ((.agg [I ((at_ a i.toNat).X), I ((at_ a i.toNat).Y), I ((at_ a i.toNat).T)] : AV) = .agg [I ((at_ a i.toNat).X), I ((at_ a i.toNat).Y), I ((at_ a i.toNat).T)]) ∧ ((.agg [I ((at_ b i.toNat).X), I ((at_ b i.toNat).Y), I ((at_ b i.toNat).T)] : AV) = .agg [I ((at_ b i.toNat).X), I ((at_ b i.toNat).Y), I ((at_ b i.toNat).T)]) ∧ True] (by kernel_rfl) hB ⟨⟨(by omega), (by omega)⟩, ⟨(by omega), (by omega)⟩, ⟨(con_bool h3 (eqPoint_ok (at_ a i.toNat) (at_ b i.toNat))), rfl, rfl, trivial⟩, trivial⟩ ?_
        refine ae_then ?_
        refine aw_true rfl ?_
        refine aw_seq ?_
        refine aw_reg [] [4] [] [Bv false] [] [] (by kernel_rfl) hB trivial ?_
        refine ae_then ?_
        refine aw_ret ?_
        refine ae_ret_block (ae_ret_then (ae_ret_then (ae_ret_block (ae_ret_then ?_))))
        refine ae_ret hB (Bv false) (by kernel_rfl) (.inl (by first | (refine congrArg Bv (Eq.symm (decide_eq_false ?_)); intro e; subst e; simp_all [same]; done) | (exact congrArg Bv (Eq.symm (decide_eq_true hfin))))) rfl (fun _ => trivial)
    · have hfin : a = b := ext_at (by omega) (fun j hj => he0 j (by omega))
      refine aw_reg [(3, .dec false)] [0, 1, 5, 14] [] [slPoint false a, slPoint false b, I i, Bv false] [] [¬ (i < (a.length : Int))] (by kernel_rfl) hB ⟨h2, trivial⟩ ?_
      refine ae_then ?_
      refine aw_false rfl ?_
      refine aw_exit ?_
      refine ae_exit_then ?_
      refine ae_exit_then ?_
      refine ae_exit_same ?_
      refine ae_then ?_
      refine aw_seq ?_
      refine aw_reg [] [4] [] [Bv true] [] [] (by kernel_rfl) hB trivial ?_
      refine ae_then ?_
      refine aw_ret ?_
      refine ae_ret hB (Bv true) (by kernel_rfl) (.inl (by first | (refine congrArg Bv (Eq.symm (decide_eq_false ?_)); intro e; subst e; simp_all [same]; done) | (exact congrArg Bv (Eq.symm (decide_eq_true hfin))))) rfl (fun _ => trivial)
  · refine aw_reg [(4, .dec true)] [0, 1, 10] [] [slPoint false a, slPoint false b, Bv true] [] [(a.length : Int) ≠ (b.length : Int)] (by kernel_rfl) hB ⟨h1, trivial⟩ ?_
    refine ae_then ?_
    refine aw_true rfl ?_
    refine aw_seq ?_
    refine aw_reg [] [4] [] [Bv false] [] [] (by kernel_rfl) hB trivial ?_
    refine ae_then ?_
    refine aw_ret ?_
    refine ae_ret_then ?_
    refine ae_ret hB (Bv false) (by kernel_rfl) (.inl (by first | (refine congrArg Bv (Eq.symm (decide_eq_false ?_)); intro e; subst e; simp_all [same]; done) | (exact congrArg Bv (Eq.symm (decide_eq_true hfin))))) rfl (fun _ => trivial)


-- laws.eqStroke
theorem eqStroke_ok (a : Stroke) (b : Stroke) : Con Try.prog 35 [.agg [slPoint false a.Points], .agg [slPoint false b.Points]] true (Bv (same a b)) := by
  refine fn_ok (fn := Try.f35) (nt := 11) Try.func35 rfl rfl rfl rfl (by simp [taggedL, tagged, tagPoint]) fun B hB => ?_
  refine aw_lens (x := .agg [slPoint false a.Points]) 0 rfl (fun len_a => ?_)
  simp [LenOK, LenL, cPoint, fPoint, slPoint] at len_a
  refine aw_lens (x := .agg [slPoint false b.Points]) 1 rfl (fun len_b => ?_)
  simp [LenOK, LenL, cPoint, fPoint, slPoint] at len_b
  refine aw_seq ?_
  refine aw_reg [(0, .new 2), (1, .new 3)] [2, 3] [2, 3] [.ref 2 0, .ref 3 0] [some (.box [slPoint false a.Points]), some (.box [slPoint false b.Points])] [] (by kernel_rfl) hB trivial ?_
  refine ae_then ?_
  refine aw_seq ?_
  refine aw_seq ?_
  rcases Bool.eq_false_or_eq_true (same a.Points b.Points) with h1 | h1
  · refine aw_reg [(4, .call [(true, slPoint false a.Points), (true, slPoint false b.Points)] true (Bv true))] [10] [] [Bv false] [] [Con Try.prog 76 [slPoint false a.Points, slPoint false b.Points] true (Bv true) ∧ ((slPoint false a.Points : AV) = slPoint false a.Points) ∧ ((slPoint false b.Points : AV) = slPoint false b.Points) ∧ True] (by kernel_rfl) hB ⟨⟨(con_bool h1 (eqPointS_ok a.Points b.Points)), rfl, rfl, trivial⟩, trivial⟩ ?_
    refine ae_then ?_
    refine aw_false rfl ?_
    refine aw_skip ?_
    refine ae_then ?_
    refine aw_seq ?_
    refine aw_reg [] [4] [] [Bv true] [] [] (by kernel_rfl) hB trivial ?_
    refine ae_then ?_
    refine aw_ret ?_
    refine ae_ret hB (Bv true) (by kernel_rfl) (.inl (by first | (cases a; cases b; simp_all [same]; done) | (cases a; cases b; simp_all [same]; omega))) rfl (fun _ => trivial)
  · refine aw_reg [(4, .call [(true, slPoint false a.Points), (true, slPoint false b.Points)] true (Bv false))] [10] [] [Bv true] [] [Con Try.prog 76 [slPoint false a.Points, slPoint false b.Points] true (Bv false) ∧ ((slPoint false a.Points : AV) = slPoint false a.Points) ∧ ((slPoint false b.Points : AV) = slPoint false b.Points) ∧ True] (by kernel_rfl) hB ⟨⟨(con_bool h1 (eqPointS_ok a.Points b.Points)), rfl, rfl, trivial⟩, trivial⟩ ?_
    refine ae_then ?_
    refine aw_true rfl ?_
    refine aw_seq ?_
    refine aw_reg [] [4] [] [Bv false] [] [] (by kernel_rfl) hB trivial ?_
    refine ae_then ?_
    refine aw_ret ?_
    refine ae_ret_then ?_
    refine ae_ret hB (Bv false) (by kernel_rfl) (.inl (by first | (cases a; cases b; simp_all [same]; done) | (cases a; cases b; simp_all [same]; omega))) rfl (fun _ => trivial)


theorem same_self {α : Type} [DecidableEq α] (x : α) : same x x = true := by simp [same]

-- laws.FnExactGestureOf
theorem fnExactGestureOf_con (aS : Stroke) : Con Try.prog 7 [.agg [slPoint false aS.Points]] true (Bv true) := by
  refine fn_ok (fn := Try.f7) (nt := 40) Try.func7 rfl rfl rfl rfl (by simp [taggedL, tagged, tagPoint]) fun B hB => ?_
  refine aw_lens (x := .agg [slPoint false aS.Points]) 0 rfl (fun len_aS => ?_)
  simp [LenOK, LenL, cPoint, fPoint, slPoint] at len_aS
  refine aw_seq ?_
  refine aw_reg [(0, .new 1)] [1] [1] [.ref 1 0] [some (.box [slPoint false aS.Points])] [] (by kernel_rfl) hB trivial ?_
  refine ae_then ?_
  refine aw_seq ?_
  refine aw_reg [] [1, 3] [1] [.ref 1 0, I 1048576] [some (.box [slPoint false aS.Points])] [] (by kernel_rfl) hB trivial ?_
  refine ae_then ?_
  refine aw_seq ?_
  refine aw_reg [(2, .call [(true, .agg [slPoint false aS.Points]), (true, I 1048576)] true (I (szTake 1048576 (bulkStroke aS))))] [1, 3] [1] [.ref 1 0, I (szTake 1048576 (bulkStroke aS))] [some (.box [slPoint false aS.Points])] [Con Try.prog 31 [.agg [slPoint false aS.Points], I 1048576] true (I (szTake 1048576 (bulkStroke aS))) ∧ ((.agg [slPoint false aS.Points] : AV) = .agg [slPoint false aS.Points]) ∧ ((I 1048576 : AV) = I 1048576) ∧ True] (by kernel_rfl) hB ⟨⟨(szStroke_ok aS 1048576 (by omega)), rfl, rfl, trivial⟩, trivial⟩ ?_
  refine ae_then ?_
  refine aw_seq ?_
  refine aw_seq ?_
  by_cases h1 : (szTake 1048576 (bulkStroke aS)) < 0
  · refine aw_reg [(1, .dec true)] [1, 13] [1] [.ref 1 0, Bv true] [some (.box [slPoint false aS.Points])] [(szTake 1048576 (bulkStroke aS)) < 0] (by kernel_rfl) hB ⟨h1, trivial⟩ ?_
    refine ae_then ?_
    refine aw_true rfl ?_
    refine aw_seq ?_
    refine aw_reg [] [2] [] [Bv true] [] [] (by kernel_rfl) hB trivial ?_
    refine ae_then ?_
    refine aw_ret ?_
    refine ae_ret_then ?_
    refine ae_ret hB (Bv true) (by kernel_rfl) (.inl rfl) rfl (fun _ => trivial)
  · have eh1 := szTake_nn h1
    refine aw_reg [(1, .dec false)] [1, 13] [1] [.ref 1 0, Bv false] [some (.box [slPoint false aS.Points])] [¬ ((szTake 1048576 (bulkStroke aS)) < 0)] (by kernel_rfl) hB ⟨h1, trivial⟩ ?_
    refine ae_then ?_
    refine aw_false rfl ?_
    refine aw_skip ?_
    refine ae_then ?_
    refine aw_seq ?_
    refine aw_reg [(1, .call [(true, .agg [slPoint false aS.Points])] true (.agg [slPoint true aS.Points])), (2, .call [(false, .agg [slPoint false aS.Points])] true (.tup [I ((gestR aS).1), I ((gestR aS).2)]))] [1, 4, 5] [1] [.ref 1 0, I ((gestR aS).1), I ((gestR aS).2)] [some (.box [slPoint false aS.Points])] [Con Try.prog 33 [.agg [slPoint false aS.Points]] true (.agg [slPoint true aS.Points]) ∧ ((.agg [slPoint false aS.Points] : AV) = .agg [slPoint false aS.Points]) ∧ True, Con Try.prog 32 [.agg [slPoint false aS.Points]] true (.tup [I ((gestR aS).1), I ((gestR aS).2)]) ∧ (((false = true → true = true) ∧ 3 = 3 ∧ aS.Points.length = aS.Points.length ∧ ∀ i, i < aS.Points.length → (fPoint aS.Points) i = (fPoint aS.Points) i ∨ (AV.idsL ((fPoint aS.Points) i) = [] ∧ leL (fun _ => none) false ((fPoint aS.Points) i) ((fPoint aS.Points) i))) ∧ ([] : List AV) = []) ∧ True] (by kernel_rfl) hB ⟨⟨(toStroke_ok aS (by omega)), rfl, trivial⟩, ⟨(specGestureOf_ok aS), ⟨⟨(fun h => by cases h), rfl, rfl, fun i _ => .inl rfl⟩, rfl⟩, trivial⟩, trivial⟩ ?_
    refine ae_then ?_
    refine aw_seq ?_
    refine aw_reg [(1, .call [(true, .agg [slPoint false aS.Points])] true (.agg [slPoint true aS.Points])), (2, .new 6)] [1, 4, 5, 6] [1, 6] [.ref 1 0, I ((gestR aS).1), I ((gestR aS).2), .ref 6 0] [some (.box [slPoint false aS.Points]), some (.box [slPoint true aS.Points])] [Con Try.prog 33 [.agg [slPoint false aS.Points]] true (.agg [slPoint true aS.Points]) ∧ ((.agg [slPoint false aS.Points] : AV) = .agg [slPoint false aS.Points]) ∧ True] (by kernel_rfl) hB ⟨⟨(toStroke_ok aS (by omega)), rfl, trivial⟩, trivial⟩ ?_
    refine ae_then ?_
    refine aw_seq ?_
    refine aw_reg [(1, .call [(false, .agg [slPoint false aS.Points])] true (.tup [I ((gestR aS).1), I ((gestR aS).2)]))] [1, 4, 5, 6, 7, 8] [1, 6] [.ref 1 0, I ((gestR aS).1), I ((gestR aS).2), .ref 6 0, I ((gestR aS).1), I ((gestR aS).2)] [some (.box [slPoint false aS.Points]), some (.box [slPoint true aS.Points])] [Con Try.prog 34 [.agg [slPoint false aS.Points]] true (.tup [I ((gestR aS).1), I ((gestR aS).2)]) ∧ (((false = true → true = true) ∧ 3 = 3 ∧ aS.Points.length = aS.Points.length ∧ ∀ i, i < aS.Points.length → (fPoint aS.Points) i = (fPoint aS.Points) i ∨ (AV.idsL ((fPoint aS.Points) i) = [] ∧ leL (fun _ => none) false ((fPoint aS.Points) i) ((fPoint aS.Points) i))) ∧ ([] : List AV) = []) ∧ True] (by kernel_rfl) hB ⟨⟨(implGestureOf_ok aS), ⟨⟨(fun h => by cases h), rfl, rfl, fun i _ => .inl rfl⟩, rfl⟩, trivial⟩, trivial⟩ ?_
    refine ae_then ?_
    refine aw_seq ?_
    refine aw_seq ?_
    refine aw_reg [(2, .dec false), (6, .dec false)] [1, 6, 34] [1, 6] [.ref 1 0, .ref 6 0, Bv false] [some (.box [slPoint false aS.Points]), some (.box [slPoint true aS.Points])] [¬ (((gestR aS).1) ≠ ((gestR aS).1)), ¬ (((gestR aS).2) ≠ ((gestR aS).2))] (by kernel_rfl) hB ⟨(fun hq => hq rfl), (fun hq => hq rfl), trivial⟩ ?_
    refine ae_then ?_
    refine aw_false rfl ?_
    refine aw_skip ?_
    refine ae_then ?_
    refine aw_seq ?_
    refine aw_seq ?_
    refine aw_reg [(2, .call [(true, .agg [slPoint false aS.Points])] true (.agg [slPoint true aS.Points])), (3, .call [(false, .agg [slPoint false aS.Points]), (false, .agg [slPoint false aS.Points])] true (Bv true))] [39] [] [Bv false] [] [Con Try.prog 33 [.agg [slPoint false aS.Points]] true (.agg [slPoint true aS.Points]) ∧ ((.agg [slPoint false aS.Points] : AV) = .agg [slPoint false aS.Points]) ∧ True, Con Try.prog 35 [.agg [slPoint false aS.Points], .agg [slPoint false aS.Points]] true (Bv true) ∧ (((false = true → true = true) ∧ 3 = 3 ∧ aS.Points.length = aS.Points.length ∧ ∀ i, i < aS.Points.length → (fPoint aS.Points) i = (fPoint aS.Points) i ∨ (AV.idsL ((fPoint aS.Points) i) = [] ∧ leL (fun _ => none) false ((fPoint aS.Points) i) ((fPoint aS.Points) i))) ∧ ([] : List AV) = []) ∧ (((false = true → true = true) ∧ 3 = 3 ∧ aS.Points.length = aS.Points.length ∧ ∀ i, i < aS.Points.length → (fPoint aS.Points) i = (fPoint aS.Points) i ∨ (AV.idsL ((fPoint aS.Points) i) = [] ∧ leL (fun _ => none) false ((fPoint aS.Points) i) ((fPoint aS.Points) i))) ∧ ([] : List AV) = []) ∧ True] (by kernel_rfl) hB ⟨⟨(toStroke_ok aS (by omega)), rfl, trivial⟩, ⟨(con_bool (same_self _) (eqStroke_ok aS aS)), ⟨⟨(fun h => by cases h), rfl, rfl, fun i _ => .inl rfl⟩, rfl⟩, ⟨⟨(fun h => by cases h), rfl, rfl, fun i _ => .inl rfl⟩, rfl⟩, trivial⟩, trivial⟩ ?_
    refine ae_then ?_
    refine aw_false rfl ?_
    refine aw_skip ?_
    refine ae_then ?_
    refine aw_seq ?_
    refine aw_reg [] [2] [] [Bv true] [] [] (by kernel_rfl) hB trivial ?_
    refine ae_then ?_
    refine aw_ret ?_
    refine ae_ret hB (Bv true) (by kernel_rfl) (.inl rfl) rfl (fun _ => trivial)


/-! ### the row -/

def okOPoint (x : Point) : Prop := (inR .i64 x.X) ∧ (inR .i64 x.Y) ∧ (inR .i64 x.T)

theorem opens_t146 : OpensA Try.prog 146 (cPoint) okOPoint := by
  intro H enc w base spare held fuel cs y h
  obtain ⟨ys, n, _, _, hlen, hyl, hf⟩ := DataW.trod_struct Try.underlying146 h
  obtain ⟨x0, r0, o0⟩ := (opensA_int Try.underlying2) enc w base spare held _ _ _ ((hf 0 _ rfl).trans (List.getElem?_eq_getElem (by rw [hyl]; decide)))
  obtain ⟨x1, r1, o1⟩ := (opensA_int Try.underlying2) enc w base spare held _ _ _ ((hf 1 _ rfl).trans (List.getElem?_eq_getElem (by rw [hyl]; decide)))
  obtain ⟨x2, r2, o2⟩ := (opensA_int Try.underlying2) enc w base spare held _ _ _ ((hf 2 _ rfl).trans (List.getElem?_eq_getElem (by rw [hyl]; decide)))
  have hlen : cs.length = 3 := hlen.trans (by kernel_rfl)
  exact ⟨⟨x0, x1, x2⟩, RelTL.whole (n := 3) (RelTL.app (a := 2) (b := 1) (RelTL.app (a := 1) (b := 1) r0 (by kernel_rfl) r1 (by kernel_rfl) (by kernel_rfl) (by omega)) rfl r2 (by kernel_rfl) (by kernel_rfl) (by omega)) hlen rfl, o0, o1, o2⟩

theorem opens_t58 : OpensA Try.prog 58 (cLPoint false) (fun xs => ∀ y ∈ xs, okOPoint y) :=
  opensA_slice (c := cPoint) (sz := 3) Try.underlying58 (by kernel_rfl) (by decide) (fun x => ⟨rfl, by simp [oneA, cI, cPoint]⟩) (opens_t146)

def okOStroke (x : Stroke) : Prop := (∀ y ∈ x.Points, okOPoint y)

theorem opens_t60 : OpensA Try.prog 60 (cStroke false) okOStroke := by
  intro H enc w base spare held fuel cs y h
  obtain ⟨ys, n, _, _, hlen, hyl, hf⟩ := DataW.trod_struct Try.underlying60 h
  obtain ⟨x0, r0, o0⟩ := (opens_t58) enc w base spare held _ _ _ ((hf 0 _ rfl).trans (List.getElem?_eq_getElem (by rw [hyl]; decide)))
  have hlen : cs.length = 1 := hlen.trans (by kernel_rfl)
  exact ⟨⟨x0⟩, RelTL.whole (n := 1) (show RelTL w _ _ ((cs.drop 0).take 1) from (by have e : Try.prog.cellsOf 58 = 1 := (by kernel_rfl); rw [← e]; exact r0)) hlen rfl, o0⟩

namespace fnExactGestureOf
set_option maxRecDepth 100000 in
theorem lifted (os : Os) (started : os.Started) (H : Type) (enc : TypeId × Value → H) :
    ReturnsInHanded {} Try.checked os 7 .any (Rows.fnExactGestureOfSpec.pre6 enc Try.prog Try.f7 Rows.fnExactGestureOfRow.domain false) (Rows.fnExactGestureOfSpec.post enc Try.prog Try.f7 false true false false) := by
  refine returnsInHanded_of_change_shaped (C := Try.checked) Try.own started (by kernel_rfl) Try.func7
    (ChangeSpec.witness6 (enc := enc) (C := Try.checked) false ⟨#[], #[.agg #[.slice none 0 0]], []⟩ 8 (by kernel_rfl) (by kernel_rfl) (by kernel_rfl) (by kernel_rfl)) ?_
  intro W base args ds gs before hval0 hW hcnd hsz hshp _
  have hW' := hW
  obtain ⟨p, q, hA0, hV, rfl, hfz, hnd⟩ := hW
  have hval : ∀ (j : Nat) t v, Try.f7.params[j]? = some t → args[j]? = some v → Value.okWide Try.prog W .any base t v := hval0
  have hA : DataW.TrodAll enc Try.prog W 0 (fun _ => true) true Try.f7.params.toList args.toList ds p := hA0
  rw [Try.params7] at hA hval
  obtain ⟨v0, vs0, d0, ds0, p0, q0, hargs, rfl, rfl, h0, r0⟩ := trodAll_cons hA
  obtain ⟨rfl, rfl, rfl⟩ := trodAll_nil r0
  obtain rfl : args = #[v0] := args_eq hargs
  obtain ⟨rfl, rfl⟩ := trodVars_none hV
  obtain ⟨fuel0, hf0⟩ := h0
  obtain ⟨cs0, rfl⟩ : ∃ cs, v0 = .agg cs := by
    obtain ⟨cs, h, _⟩ := okWide_struct Try.underlying60 (hval 0 60 v0 rfl rfl)
    exact ⟨cs, h⟩
  obtain ⟨x0, rx0, ok0⟩ := (opens_t60) enc W 0 _ _ _ _ _ hf0
  refine (walk_of (fnExactGestureOf_con x0) (RelTL.cons (relTL_agg rx0) RelTL.nil)).mono fun e W1 ⟨he, hb⟩ => ?_
  subst he
  exact ⟨_, rfl, law_post Try.laidOut rfl Try.underlying4 (of_decide_eq_true (by kernel_rfl)) rfl hW' hb rfl⟩

theorem over : Rows.fnExactGestureOfRow.holds Try.pinned (OpenSpec.ofChange Rows.fnExactGestureOfSpec) :=
  OpenClaim.holds_of_wide 7 Try.f7 rfl rfl rfl rfl rfl rfl rfl ⟨rfl, rfl, rfl, rfl, rfl⟩ rfl rfl rfl rfl rfl (by kernel_rfl) Try.func7 (by kernel_rfl)
    (of_decide_eq_true (by kernel_rfl)) (by unfold Func.isWrapper; first | (rw [if_pos (by decide +kernel)]; kernel_rfl) | (rw [if_neg (by decide +kernel)]; exact ⟨rfl, rfl⟩))
    (fun os started H enc _ => lifted os started H enc)

theorem proved : Rows.FnExactGestureOfSaid :=
  over
#print axioms proved
end fnExactGestureOf
end Go.Proofs.Ytmnboneljjijmaa.Ax
