/- The statement FnFractions: contracts of what it reaches, and its proof. No conditions. -/
import Derived.Test.YtngmfpjhlcfapaaDoorAxLFractions1
import Derived.LaidMore
import Derived.Lay
import Derived.Lib.ItoaNum
import Derived.OpenShut
import Derived.SevenTiedAt
import Derived.Stop.Joined
namespace Go.Proofs.YtngmfpjhlcfapaaDoor.Ax
open Go.RowKit Go.ChangeShapes Go.WideShapes
set_option linter.unusedVariables false
set_option linter.unusedSimpArgs false


-- spec.PowerFraction
theorem specPowerFraction_ok (a : Fraction) (power : Int) : Con Tryd.prog 16 [.agg [I a.Num, I a.Den], I power] true (.tup [.agg [I (((powR a power).1).Num), I (((powR a power).1).Den)], I ((powR a power).2)]) := by
  refine fn_ok (fn := Tryd.f16) (nt := 50) Tryd.func16 rfl rfl rfl rfl (by simp [taggedL, tagged]) fun B hB => ?_
  refine aw_seq ?_
  refine aw_reg [(0, .new 2), (1, .new 4)] [1, 2, 4] [2, 4] [I power, .ref 2 0, .ref 4 0] [some (.box [I a.Num, I a.Den]), some (.box [I 0, I 0])] [] (by kernel_rfl) hB trivial ?_
  refine ae_then ?_
  refine aw_seq ?_
  refine aw_seq ?_
  rcases Bool.eq_false_or_eq_true (okFr a) with h1 | h1
  · refine aw_reg [(1, .call [(true, .agg [I a.Num, I a.Den])] true (Bv true))] [1, 2, 4, 12] [2, 4] [I power, .ref 2 0, .ref 4 0, Bv false] [some (.box [I a.Num, I a.Den]), some (.box [I 0, I 0])] [Con Tryd.prog 31 [.agg [I a.Num, I a.Den]] true (Bv true) ∧ ((.agg [I a.Num, I a.Den] : AV) = .agg [I a.Num, I a.Den]) ∧ True] (by kernel_rfl) hB ⟨⟨(con_bool h1 (l22Ok_ok a)), rfl, trivial⟩, trivial⟩ ?_
    refine ae_then ?_
    refine aw_false rfl ?_
    refine aw_skip ?_
    refine ae_then ?_
    refine aw_seq ?_
    refine aw_seq ?_
    rcases Bool.eq_false_or_eq_true (inB power (-20) 20) with h2 | h2
    · have hinh2 := inB_iff.1 h2
      refine aw_reg [(1, .call [(true, I power), (true, I (-20)), (true, I 20)] true (Bv true))] [1, 2, 4, 16] [2, 4] [I power, .ref 2 0, .ref 4 0, Bv false] [some (.box [I a.Num, I a.Den]), some (.box [I 0, I 0])] [Con Tryd.prog 43 [I power, I (-20), I 20] true (Bv true) ∧ ((I power : AV) = I power) ∧ ((I (-20) : AV) = I (-20)) ∧ ((I 20 : AV) = I 20) ∧ True] (by kernel_rfl) hB ⟨⟨(con_bool h2 (l00In_ok power (-20) 20)), rfl, rfl, rfl, trivial⟩, trivial⟩ ?_
      refine ae_then ?_
      refine aw_false rfl ?_
      refine aw_skip ?_
      refine ae_then ?_
      refine aw_seq ?_
      refine aw_seq ?_
      by_cases h3 : power < 0
      · by_cases h4 : a.Num = 0
        · refine aw_reg [(1, .dec true), (5, .dec true)] [1, 2, 4, 24] [2, 4] [I power, .ref 2 0, .ref 4 0, Bv true] [some (.box [I a.Num, I a.Den]), some (.box [I 0, I 0])] [power < 0, a.Num = 0] (by kernel_rfl) hB ⟨h3, h4, trivial⟩ ?_
          refine ae_then ?_
          refine aw_true rfl ?_
          refine aw_seq ?_
          refine aw_reg [] [4, 5] [4] [.ref 4 0, I 6] [some (.box [I 0, I 0])] [] (by kernel_rfl) hB trivial ?_
          refine ae_then ?_
          refine aw_ret ?_
          refine ae_ret_then ?_
          refine ae_ret hB (.tup [.agg [I 0, I 0], I 6]) (by kernel_rfl) (.inl (by first | (rw [powR_1 (by assumption)]; done) | (rw [powR_2 (by assumption) (by assumption)]; done) | (rw [powR_6 (by assumption) (by assumption) (by constructor <;> assumption)]; done) | (rw [powR_eq (by assumption) (by assumption) (by omega), hp1]; done) | (rw [powR_eq (by assumption) (by assumption) (by omega), hfail, hz]; done))) rfl (fun _ => (by simp [tagged, taggedL]))
        · have h0 : a.Num ≠ 0 := h4
          refine aw_reg [(1, .dec true), (5, .dec false)] [1, 2, 4, 24] [2, 4] [I power, .ref 2 0, .ref 4 0, Bv false] [some (.box [I a.Num, I a.Den]), some (.box [I 0, I 0])] [power < 0, ¬ (a.Num = 0)] (by kernel_rfl) hB ⟨h3, h4, trivial⟩ ?_
          refine ae_then ?_
          refine aw_false rfl ?_
          refine aw_skip ?_
          refine ae_then ?_
          refine aw_seq ?_
          refine aw_seq ?_
          refine aw_reg [(1, .dec true)] [1, 2, 4, 27] [2, 4] [I power, .ref 2 0, .ref 4 0, Bv true] [some (.box [I a.Num, I a.Den]), some (.box [I 0, I 0])] [power < 0] (by kernel_rfl) hB ⟨h3, trivial⟩ ?_
          refine ae_then ?_
          refine aw_true rfl ?_
          refine aw_seq ?_
          refine aw_reg [(1, .call [(true, .agg [I a.Num, I a.Den])] true (.agg [I ((turnF a).Num), I ((turnF a).Den)]))] [1, 2, 4] [2, 4] [I power, .ref 2 0, .ref 4 0] [some (.box [I ((turnF a).Num), I ((turnF a).Den)]), some (.box [I 0, I 0])] [Con Tryd.prog 44 [.agg [I a.Num, I a.Den]] true (.agg [I ((turnF a).Num), I ((turnF a).Den)]) ∧ ((.agg [I a.Num, I a.Den] : AV) = .agg [I a.Num, I a.Den]) ∧ True] (by kernel_rfl) hB ⟨⟨(l22Turn_ok a (by assumption)), rfl, trivial⟩, trivial⟩ ?_
          refine ae_then ?_
          refine aw_reg [] [1, 2, 4] [2, 4] [I (-power), .ref 2 0, .ref 4 0] [some (.box [I ((turnF a).Num), I ((turnF a).Den)]), some (.box [I 0, I 0])] [inR .i64 (-power)] (by kernel_rfl) hB ⟨(inR_i64 (by omega) (by omega)), trivial⟩ ?_
          refine ae_then ?_
          refine aw_seq ?_
          refine aw_reg [(1, .new 6)] [1, 2, 4, 6] [2, 4, 6] [I (-power), .ref 2 0, .ref 4 0, .ref 6 0] [some (.box [I ((turnF a).Num), I ((turnF a).Den)]), some (.box [I 0, I 0]), some (.box [I 1, I 1])] [] (by kernel_rfl) hB trivial ?_
          refine ae_then ?_
          refine aw_seq ?_
          refine aw_seq ?_
          refine aw_reg [] [1, 2, 4, 6, 7] [2, 4, 6] [I (-power), .ref 2 0, .ref 4 0, .ref 6 0, I 0] [some (.box [I ((turnF a).Num), I ((turnF a).Den)]), some (.box [I 0, I 0]), some (.box [I 1, I 1])] [] (by kernel_rfl) hB trivial ?_
          refine ae_then ?_
          refine aw_block ?_
          refine aw_loop (fun gn gσ => ∃ (k : Int) (fn_ : Int) (fd_ : Int) (b4_0 : Int) (b4_1 : Int), gn = ((power.natAbs : Int) - k).toNat ∧ (0 ≤ k ∧ k ≤ (power.natAbs : Int)) ∧ (powL (if power < 0 then turnF a else a) (k).toNat = (Fraction.mk fn_ fd_, 0)) ∧ gσ = mkS [(1, I (-power)), (2, .ref 2 0), (4, .ref 4 0), (6, .ref 6 0), (7, I k)] [(2, .box [I ((turnF a).Num), I ((turnF a).Den)]), (4, .box [I b4_0, I b4_1]), (6, .box [I fn_, I fd_])]) (((power.natAbs : Int) - 0).toNat) ⟨0, 1, 1, 0, 0, rfl, (by omega), (by exact powL_at (by omega)), rfl⟩ (fun gn gσ hI => ?_)
          obtain ⟨k, fn_, fd_, b4_0, b4_1, rfl, hi0, hp1, rfl⟩ := hI
          refine aw_seq ?_
          refine aw_seq ?_
          by_cases h5 : k < (-power)
          · refine aw_reg [(2, .dec true)] [1, 2, 4, 6, 7, 35] [2, 4, 6] [I (-power), .ref 2 0, .ref 4 0, .ref 6 0, I k, Bv true] [some (.box [I ((turnF a).Num), I ((turnF a).Den)]), some (.box [I b4_0, I b4_1]), some (.box [I fn_, I fd_])] [k < (-power)] (by kernel_rfl) hB ⟨h5, trivial⟩ ?_
            refine ae_then ?_
            refine aw_true rfl ?_
            refine aw_skip ?_
            refine ae_then ?_
            refine aw_seq ?_
            refine aw_block ?_
            refine aw_seq ?_
            refine aw_reg [(2, .call [(true, .agg [I fn_, I fd_]), (true, .agg [I ((turnF a).Num), I ((turnF a).Den)])] true (.tup [.agg [I (((timesR (Fraction.mk fn_ fd_) (turnF a)).1).Num), I (((timesR (Fraction.mk fn_ fd_) (turnF a)).1).Den)], I ((timesR (Fraction.mk fn_ fd_) (turnF a)).2)])), (6, .new 8)] [1, 2, 4, 6, 7, 8, 9] [2, 4, 6, 8] [I (-power), .ref 2 0, .ref 4 0, .ref 6 0, I k, .ref 8 0, I ((timesR (Fraction.mk fn_ fd_) (turnF a)).2)] [some (.box [I ((turnF a).Num), I ((turnF a).Den)]), some (.box [I b4_0, I b4_1]), some (.box [I fn_, I fd_]), some (.box [I (((timesR (Fraction.mk fn_ fd_) (turnF a)).1).Num), I (((timesR (Fraction.mk fn_ fd_) (turnF a)).1).Den)])] [Con Tryd.prog 10 [.agg [I fn_, I fd_], .agg [I ((turnF a).Num), I ((turnF a).Den)]] true (.tup [.agg [I (((timesR (Fraction.mk fn_ fd_) (turnF a)).1).Num), I (((timesR (Fraction.mk fn_ fd_) (turnF a)).1).Den)], I ((timesR (Fraction.mk fn_ fd_) (turnF a)).2)]) ∧ ((.agg [I fn_, I fd_] : AV) = .agg [I fn_, I fd_]) ∧ ((.agg [I ((turnF a).Num), I ((turnF a).Den)] : AV) = .agg [I ((turnF a).Num), I ((turnF a).Den)]) ∧ True] (by kernel_rfl) hB ⟨⟨(specTimesFractions_ok (Fraction.mk fn_ fd_) (turnF a)), rfl, rfl, trivial⟩, trivial⟩ ?_
            refine ae_then ?_
            refine aw_seq ?_
            refine aw_seq ?_
            by_cases h6 : ((timesR (Fraction.mk fn_ fd_) (turnF a)).2) = 0
            · have hst := powL_step hp1 (by first | exact if_pos (by assumption) | exact if_neg (by assumption)) h6
              rw [show (k).toNat + 1 = ((k + 1)).toNat from by omega] at hst
              refine aw_reg [(1, .dec false)] [1, 2, 4, 6, 7, 8, 9, 45] [2, 4, 6, 8] [I (-power), .ref 2 0, .ref 4 0, .ref 6 0, I k, .ref 8 0, I ((timesR (Fraction.mk fn_ fd_) (turnF a)).2), Bv false] [some (.box [I ((turnF a).Num), I ((turnF a).Den)]), some (.box [I b4_0, I b4_1]), some (.box [I fn_, I fd_]), some (.box [I (((timesR (Fraction.mk fn_ fd_) (turnF a)).1).Num), I (((timesR (Fraction.mk fn_ fd_) (turnF a)).1).Den)])] [¬ (((timesR (Fraction.mk fn_ fd_) (turnF a)).2) ≠ 0)] (by kernel_rfl) hB ⟨(fun hq => hq h6), trivial⟩ ?_
              refine ae_then ?_
              refine aw_false rfl ?_
              refine aw_skip ?_
              refine ae_then ?_
              refine aw_reg [] [1, 2, 4, 6, 7] [2, 4, 6] [I (-power), .ref 2 0, .ref 4 0, .ref 6 0, I k] [some (.box [I ((turnF a).Num), I ((turnF a).Den)]), some (.box [I b4_0, I b4_1]), some (.box [I (((timesR (Fraction.mk fn_ fd_) (turnF a)).1).Num), I (((timesR (Fraction.mk fn_ fd_) (turnF a)).1).Den)])] [] (by kernel_rfl) hB trivial ?_
              refine ae_block 1 ?_
              refine ae_then ?_
              refine aw_reg [] [1, 2, 4, 6, 7] [2, 4, 6] [I (-power), .ref 2 0, .ref 4 0, .ref 6 0, I (k + 1)] [some (.box [I ((turnF a).Num), I ((turnF a).Den)]), some (.box [I b4_0, I b4_1]), some (.box [I (((timesR (Fraction.mk fn_ fd_) (turnF a)).1).Num), I (((timesR (Fraction.mk fn_ fd_) (turnF a)).1).Den)])] [inR .i64 (k + 1)] (by kernel_rfl) hB ⟨(inR_i64 (by omega) (by omega)), trivial⟩ ?_
              exact ae_again _ (by omega) ⟨(k + 1), ((timesR (Fraction.mk fn_ fd_) (turnF a)).1).Num, ((timesR (Fraction.mk fn_ fd_) (turnF a)).1).Den, b4_0, b4_1, rfl, (by omega), (by exact hst), rfl⟩
            · have hfail := powL_stop hp1 (by first | exact if_pos (by assumption) | exact if_neg (by assumption)) h6 (m := power.natAbs) (by omega)
              have hz := timesR_zero h6
              refine aw_reg [(1, .dec true)] [1, 2, 4, 6, 7, 8, 9, 45] [2, 4, 6, 8] [I (-power), .ref 2 0, .ref 4 0, .ref 6 0, I k, .ref 8 0, I ((timesR (Fraction.mk fn_ fd_) (turnF a)).2), Bv true] [some (.box [I ((turnF a).Num), I ((turnF a).Den)]), some (.box [I b4_0, I b4_1]), some (.box [I fn_, I fd_]), some (.box [I (((timesR (Fraction.mk fn_ fd_) (turnF a)).1).Num), I (((timesR (Fraction.mk fn_ fd_) (turnF a)).1).Den)])] [((timesR (Fraction.mk fn_ fd_) (turnF a)).2) ≠ 0] (by kernel_rfl) hB ⟨h6, trivial⟩ ?_
              refine ae_then ?_
              refine aw_true rfl ?_
              refine aw_seq ?_
              refine aw_reg [] [4, 5] [4] [.ref 4 0, I ((timesR (Fraction.mk fn_ fd_) (turnF a)).2)] [some (.box [I 0, I 0])] [] (by kernel_rfl) hB trivial ?_
              refine ae_then ?_
              refine aw_ret ?_
              refine ae_ret_then (ae_ret_block (ae_ret_then (ae_ret_then (ae_ret_block (ae_ret_then ?_)))))
              refine ae_ret hB (.tup [.agg [I 0, I 0], I ((timesR (Fraction.mk fn_ fd_) (turnF a)).2)]) (by kernel_rfl) (.inl (by first | (rw [powR_1 (by assumption)]; done) | (rw [powR_2 (by assumption) (by assumption)]; done) | (rw [powR_6 (by assumption) (by assumption) (by constructor <;> assumption)]; done) | (rw [powR_eq (by assumption) (by assumption) (by omega), hp1]; done) | (rw [powR_eq (by assumption) (by assumption) (by omega), hfail, hz]; done))) rfl (fun _ => (by simp [tagged, taggedL]))
          · rw [show (k).toNat = power.natAbs from by omega] at hp1
            refine aw_reg [(2, .dec false)] [1, 2, 4, 6, 7, 35] [2, 4, 6] [I (-power), .ref 2 0, .ref 4 0, .ref 6 0, I k, Bv false] [some (.box [I ((turnF a).Num), I ((turnF a).Den)]), some (.box [I b4_0, I b4_1]), some (.box [I fn_, I fd_])] [¬ (k < (-power))] (by kernel_rfl) hB ⟨h5, trivial⟩ ?_
            refine ae_then ?_
            refine aw_false rfl ?_
            refine aw_exit ?_
            refine ae_exit_then ?_
            refine ae_exit_then ?_
            refine ae_exit_same ?_
            refine ae_then ?_
            refine aw_seq ?_
            refine aw_reg [] [4, 5] [4] [.ref 4 0, I 0] [some (.box [I fn_, I fd_])] [] (by kernel_rfl) hB trivial ?_
            refine ae_then ?_
            refine aw_ret ?_
            refine ae_ret hB (.tup [.agg [I fn_, I fd_], I 0]) (by kernel_rfl) (.inl (by first | (rw [powR_1 (by assumption)]; done) | (rw [powR_2 (by assumption) (by assumption)]; done) | (rw [powR_6 (by assumption) (by assumption) (by constructor <;> assumption)]; done) | (rw [powR_eq (by assumption) (by assumption) (by omega), hp1]; done) | (rw [powR_eq (by assumption) (by assumption) (by omega), hfail, hz]; done))) rfl (fun _ => (by simp [tagged, taggedL]))
      · refine aw_reg [(1, .dec false)] [1, 2, 4, 24] [2, 4] [I power, .ref 2 0, .ref 4 0, Bv false] [some (.box [I a.Num, I a.Den]), some (.box [I 0, I 0])] [¬ (power < 0)] (by kernel_rfl) hB ⟨h3, trivial⟩ ?_
        refine ae_then ?_
        refine aw_false rfl ?_
        refine aw_skip ?_
        refine ae_then ?_
        refine aw_seq ?_
        refine aw_seq ?_
        refine aw_reg [(1, .dec false)] [1, 2, 4, 27] [2, 4] [I power, .ref 2 0, .ref 4 0, Bv false] [some (.box [I a.Num, I a.Den]), some (.box [I 0, I 0])] [¬ (power < 0)] (by kernel_rfl) hB ⟨h3, trivial⟩ ?_
        refine ae_then ?_
        refine aw_false rfl ?_
        refine aw_skip ?_
        refine ae_then ?_
        refine aw_seq ?_
        refine aw_reg [(1, .new 6)] [1, 2, 4, 6] [2, 4, 6] [I power, .ref 2 0, .ref 4 0, .ref 6 0] [some (.box [I a.Num, I a.Den]), some (.box [I 0, I 0]), some (.box [I 1, I 1])] [] (by kernel_rfl) hB trivial ?_
        refine ae_then ?_
        refine aw_seq ?_
        refine aw_seq ?_
        refine aw_reg [] [1, 2, 4, 6, 7] [2, 4, 6] [I power, .ref 2 0, .ref 4 0, .ref 6 0, I 0] [some (.box [I a.Num, I a.Den]), some (.box [I 0, I 0]), some (.box [I 1, I 1])] [] (by kernel_rfl) hB trivial ?_
        refine ae_then ?_
        refine aw_block ?_
        refine aw_loop (fun gn gσ => ∃ (k : Int) (fn_ : Int) (fd_ : Int) (b4_0 : Int) (b4_1 : Int), gn = ((power.natAbs : Int) - k).toNat ∧ (0 ≤ k ∧ k ≤ (power.natAbs : Int)) ∧ (powL (if power < 0 then turnF a else a) (k).toNat = (Fraction.mk fn_ fd_, 0)) ∧ gσ = mkS [(1, I power), (2, .ref 2 0), (4, .ref 4 0), (6, .ref 6 0), (7, I k)] [(2, .box [I a.Num, I a.Den]), (4, .box [I b4_0, I b4_1]), (6, .box [I fn_, I fd_])]) (((power.natAbs : Int) - 0).toNat) ⟨0, 1, 1, 0, 0, rfl, (by omega), (by exact powL_at (by omega)), rfl⟩ (fun gn gσ hI => ?_)
        obtain ⟨k, fn_, fd_, b4_0, b4_1, rfl, hi0, hp1, rfl⟩ := hI
        refine aw_seq ?_
        refine aw_seq ?_
        by_cases h7 : k < power
        · refine aw_reg [(2, .dec true)] [1, 2, 4, 6, 7, 35] [2, 4, 6] [I power, .ref 2 0, .ref 4 0, .ref 6 0, I k, Bv true] [some (.box [I a.Num, I a.Den]), some (.box [I b4_0, I b4_1]), some (.box [I fn_, I fd_])] [k < power] (by kernel_rfl) hB ⟨h7, trivial⟩ ?_
          refine ae_then ?_
          refine aw_true rfl ?_
          refine aw_skip ?_
          refine ae_then ?_
          refine aw_seq ?_
          refine aw_block ?_
          refine aw_seq ?_
          refine aw_reg [(2, .call [(true, .agg [I fn_, I fd_]), (true, .agg [I a.Num, I a.Den])] true (.tup [.agg [I (((timesR (Fraction.mk fn_ fd_) a).1).Num), I (((timesR (Fraction.mk fn_ fd_) a).1).Den)], I ((timesR (Fraction.mk fn_ fd_) a).2)])), (6, .new 8)] [1, 2, 4, 6, 7, 8, 9] [2, 4, 6, 8] [I power, .ref 2 0, .ref 4 0, .ref 6 0, I k, .ref 8 0, I ((timesR (Fraction.mk fn_ fd_) a).2)] [some (.box [I a.Num, I a.Den]), some (.box [I b4_0, I b4_1]), some (.box [I fn_, I fd_]), some (.box [I (((timesR (Fraction.mk fn_ fd_) a).1).Num), I (((timesR (Fraction.mk fn_ fd_) a).1).Den)])] [Con Tryd.prog 10 [.agg [I fn_, I fd_], .agg [I a.Num, I a.Den]] true (.tup [.agg [I (((timesR (Fraction.mk fn_ fd_) a).1).Num), I (((timesR (Fraction.mk fn_ fd_) a).1).Den)], I ((timesR (Fraction.mk fn_ fd_) a).2)]) ∧ ((.agg [I fn_, I fd_] : AV) = .agg [I fn_, I fd_]) ∧ ((.agg [I a.Num, I a.Den] : AV) = .agg [I a.Num, I a.Den]) ∧ True] (by kernel_rfl) hB ⟨⟨(specTimesFractions_ok (Fraction.mk fn_ fd_) a), rfl, rfl, trivial⟩, trivial⟩ ?_
          refine ae_then ?_
          refine aw_seq ?_
          refine aw_seq ?_
          by_cases h8 : ((timesR (Fraction.mk fn_ fd_) a).2) = 0
          · have hst := powL_step hp1 (by first | exact if_pos (by assumption) | exact if_neg (by assumption)) h8
            rw [show (k).toNat + 1 = ((k + 1)).toNat from by omega] at hst
            refine aw_reg [(1, .dec false)] [1, 2, 4, 6, 7, 8, 9, 45] [2, 4, 6, 8] [I power, .ref 2 0, .ref 4 0, .ref 6 0, I k, .ref 8 0, I ((timesR (Fraction.mk fn_ fd_) a).2), Bv false] [some (.box [I a.Num, I a.Den]), some (.box [I b4_0, I b4_1]), some (.box [I fn_, I fd_]), some (.box [I (((timesR (Fraction.mk fn_ fd_) a).1).Num), I (((timesR (Fraction.mk fn_ fd_) a).1).Den)])] [¬ (((timesR (Fraction.mk fn_ fd_) a).2) ≠ 0)] (by kernel_rfl) hB ⟨(fun hq => hq h8), trivial⟩ ?_
            refine ae_then ?_
            refine aw_false rfl ?_
            refine aw_skip ?_
            refine ae_then ?_
            refine aw_reg [] [1, 2, 4, 6, 7] [2, 4, 6] [I power, .ref 2 0, .ref 4 0, .ref 6 0, I k] [some (.box [I a.Num, I a.Den]), some (.box [I b4_0, I b4_1]), some (.box [I (((timesR (Fraction.mk fn_ fd_) a).1).Num), I (((timesR (Fraction.mk fn_ fd_) a).1).Den)])] [] (by kernel_rfl) hB trivial ?_
            refine ae_block 1 ?_
            refine ae_then ?_
            refine aw_reg [] [1, 2, 4, 6, 7] [2, 4, 6] [I power, .ref 2 0, .ref 4 0, .ref 6 0, I (k + 1)] [some (.box [I a.Num, I a.Den]), some (.box [I b4_0, I b4_1]), some (.box [I (((timesR (Fraction.mk fn_ fd_) a).1).Num), I (((timesR (Fraction.mk fn_ fd_) a).1).Den)])] [inR .i64 (k + 1)] (by kernel_rfl) hB ⟨(inR_i64 (by omega) (by omega)), trivial⟩ ?_
            exact ae_again _ (by omega) ⟨(k + 1), ((timesR (Fraction.mk fn_ fd_) a).1).Num, ((timesR (Fraction.mk fn_ fd_) a).1).Den, b4_0, b4_1, rfl, (by omega), (by exact hst), rfl⟩
          · have hfail := powL_stop hp1 (by first | exact if_pos (by assumption) | exact if_neg (by assumption)) h8 (m := power.natAbs) (by omega)
            have hz := timesR_zero h8
            refine aw_reg [(1, .dec true)] [1, 2, 4, 6, 7, 8, 9, 45] [2, 4, 6, 8] [I power, .ref 2 0, .ref 4 0, .ref 6 0, I k, .ref 8 0, I ((timesR (Fraction.mk fn_ fd_) a).2), Bv true] [some (.box [I a.Num, I a.Den]), some (.box [I b4_0, I b4_1]), some (.box [I fn_, I fd_]), some (.box [I (((timesR (Fraction.mk fn_ fd_) a).1).Num), I (((timesR (Fraction.mk fn_ fd_) a).1).Den)])] [((timesR (Fraction.mk fn_ fd_) a).2) ≠ 0] (by kernel_rfl) hB ⟨h8, trivial⟩ ?_
            refine ae_then ?_
            refine aw_true rfl ?_
            refine aw_seq ?_
            refine aw_reg [] [4, 5] [4] [.ref 4 0, I ((timesR (Fraction.mk fn_ fd_) a).2)] [some (.box [I 0, I 0])] [] (by kernel_rfl) hB trivial ?_
            refine ae_then ?_
            refine aw_ret ?_
            refine ae_ret_then (ae_ret_block (ae_ret_then (ae_ret_then (ae_ret_block (ae_ret_then ?_)))))
            refine ae_ret hB (.tup [.agg [I 0, I 0], I ((timesR (Fraction.mk fn_ fd_) a).2)]) (by kernel_rfl) (.inl (by first | (rw [powR_1 (by assumption)]; done) | (rw [powR_2 (by assumption) (by assumption)]; done) | (rw [powR_6 (by assumption) (by assumption) (by constructor <;> assumption)]; done) | (rw [powR_eq (by assumption) (by assumption) (by omega), hp1]; done) | (rw [powR_eq (by assumption) (by assumption) (by omega), hfail, hz]; done))) rfl (fun _ => (by simp [tagged, taggedL]))
        · rw [show (k).toNat = power.natAbs from by omega] at hp1
          refine aw_reg [(2, .dec false)] [1, 2, 4, 6, 7, 35] [2, 4, 6] [I power, .ref 2 0, .ref 4 0, .ref 6 0, I k, Bv false] [some (.box [I a.Num, I a.Den]), some (.box [I b4_0, I b4_1]), some (.box [I fn_, I fd_])] [¬ (k < power)] (by kernel_rfl) hB ⟨h7, trivial⟩ ?_
          refine ae_then ?_
          refine aw_false rfl ?_
          refine aw_exit ?_
          refine ae_exit_then ?_
          refine ae_exit_then ?_
          refine ae_exit_same ?_
          refine ae_then ?_
          refine aw_seq ?_
          refine aw_reg [] [4, 5] [4] [.ref 4 0, I 0] [some (.box [I fn_, I fd_])] [] (by kernel_rfl) hB trivial ?_
          refine ae_then ?_
          refine aw_ret ?_
          refine ae_ret hB (.tup [.agg [I fn_, I fd_], I 0]) (by kernel_rfl) (.inl (by first | (rw [powR_1 (by assumption)]; done) | (rw [powR_2 (by assumption) (by assumption)]; done) | (rw [powR_6 (by assumption) (by assumption) (by constructor <;> assumption)]; done) | (rw [powR_eq (by assumption) (by assumption) (by omega), hp1]; done) | (rw [powR_eq (by assumption) (by assumption) (by omega), hfail, hz]; done))) rfl (fun _ => (by simp [tagged, taggedL]))
    · have hinh2 := (not_congr inB_iff).1 (Bool.eq_false_iff.1 h2)
      refine aw_reg [(1, .call [(true, I power), (true, I (-20)), (true, I 20)] true (Bv false))] [1, 2, 4, 16] [2, 4] [I power, .ref 2 0, .ref 4 0, Bv true] [some (.box [I a.Num, I a.Den]), some (.box [I 0, I 0])] [Con Tryd.prog 43 [I power, I (-20), I 20] true (Bv false) ∧ ((I power : AV) = I power) ∧ ((I (-20) : AV) = I (-20)) ∧ ((I 20 : AV) = I 20) ∧ True] (by kernel_rfl) hB ⟨⟨(con_bool h2 (l00In_ok power (-20) 20)), rfl, rfl, rfl, trivial⟩, trivial⟩ ?_
      refine ae_then ?_
      refine aw_true rfl ?_
      refine aw_seq ?_
      refine aw_reg [] [4, 5] [4] [.ref 4 0, I 2] [some (.box [I 0, I 0])] [] (by kernel_rfl) hB trivial ?_
      refine ae_then ?_
      refine aw_ret ?_
      refine ae_ret_then ?_
      refine ae_ret hB (.tup [.agg [I 0, I 0], I 2]) (by kernel_rfl) (.inl (by first | (rw [powR_1 (by assumption)]; done) | (rw [powR_2 (by assumption) (by assumption)]; done) | (rw [powR_6 (by assumption) (by assumption) (by constructor <;> assumption)]; done) | (rw [powR_eq (by assumption) (by assumption) (by omega), hp1]; done) | (rw [powR_eq (by assumption) (by assumption) (by omega), hfail, hz]; done))) rfl (fun _ => (by simp [tagged, taggedL]))
  · refine aw_reg [(1, .call [(true, .agg [I a.Num, I a.Den])] true (Bv false))] [1, 2, 4, 12] [2, 4] [I power, .ref 2 0, .ref 4 0, Bv true] [some (.box [I a.Num, I a.Den]), some (.box [I 0, I 0])] [Con Tryd.prog 31 [.agg [I a.Num, I a.Den]] true (Bv false) ∧ ((.agg [I a.Num, I a.Den] : AV) = .agg [I a.Num, I a.Den]) ∧ True] (by kernel_rfl) hB ⟨⟨(con_bool h1 (l22Ok_ok a)), rfl, trivial⟩, trivial⟩ ?_
    refine ae_then ?_
    refine aw_true rfl ?_
    refine aw_seq ?_
    refine aw_reg [] [4, 5] [4] [.ref 4 0, I 1] [some (.box [I 0, I 0])] [] (by kernel_rfl) hB trivial ?_
    refine ae_then ?_
    refine aw_ret ?_
    refine ae_ret_then ?_
    refine ae_ret hB (.tup [.agg [I 0, I 0], I 1]) (by kernel_rfl) (.inl (by first | (rw [powR_1 (by assumption)]; done) | (rw [powR_2 (by assumption) (by assumption)]; done) | (rw [powR_6 (by assumption) (by assumption) (by constructor <;> assumption)]; done) | (rw [powR_eq (by assumption) (by assumption) (by omega), hp1]; done) | (rw [powR_eq (by assumption) (by assumption) (by omega), hfail, hz]; done))) rfl (fun _ => (by simp [tagged, taggedL]))


-- spec.DrawMakeFraction
theorem DrawMakeFraction_ok (code : List Int) (hc : (∀ j, j < code.length → 0 ≤ at_ code j ∧ at_ code j ≤ 255) ∧ code.length ≤ 4611686018427387904) : ∃ (n : Int) (d : Int), Con Tryd.prog 17 [slU8 false code] true (.tup [I n, I d]) := by
  have hh : ∃ r : Int × Int, (True) ∧ CallOK Tryd.prog 17 [slU8 false code] (lookO []) true (.tup [I r.1, I r.2]) (lookO []) := by
    refine fn_okX (Φ := fun r : Int × Int => True) [] (fun r => []) (fn := Tryd.f17) (nt := 26) Tryd.func17 rfl rfl (args := [slU8 false code]) rfl (allcons (.inl ⟨rfl, tagU8 false _⟩) allnil) (res := fun r => .tup [I r.1, I r.2]) ?_
    refine x_seq ?_
    refine x_reg [] [0] [] [slU8 false code] [] [] (by kernel_rfl) trivial ?_
    refine xe_then ?_
    refine x_seq ?_
    obtain ⟨s'_1, hx1_0, hc1⟩ := l00From_ok code
    have hsrc : okSrc s'_1 := ⟨by rw [hx1_0.1]; exact hc.1, by rw [hx1_0.2]; decide, by rw [hx1_0.1]; exact hc.2⟩
    have hat0 := hx1_0.2
    refine x_reg [(1, .lend [] [(7001, .box [slU8 false s'_1.code, I s'_1.atx, .val (.int .u64 s'_1.seed)])] [(true, slU8 false code)] false (.ref 7001 0))] [4] [7001] [.ref 7001 0] [some (.box [slU8 false s'_1.code, I s'_1.atx, .val (.int .u64 s'_1.seed)])] [CallOK Tryd.prog 35 [slU8 false code] (lookO []) false (.ref 7001 0) (lookO [(7001, .box [slU8 false s'_1.code, I s'_1.atx, .val (.int .u64 s'_1.seed)])]) ∧ ((slU8 false code : AV) = slU8 false code) ∧ True] (by kernel_rfl) ⟨⟨hc1, rfl, trivial⟩, trivial⟩ ?_
    refine xe_then ?_
    refine x_seq ?_
    obtain ⟨v_2, s'_2, hx2_0, hx2_1, hx2_2, hx2_3, hc2⟩ := pick_ok s'_1 200 (by first | assumption | (simp only [okSrc] at *; simp_all; done)) (by omega)
    refine x_reg [(1, .lend [(7001, .box [slU8 false s'_1.code, I s'_1.atx, .val (.int .u64 s'_1.seed)], .box [slU8 false s'_2.code, I s'_2.atx, .val (.int .u64 s'_2.seed)])] [] [(true, .ref 7001 0), (true, I 200)] true (I v_2))] [4, 5] [7001] [.ref 7001 0, I (v_2 - 100)] [some (.box [slU8 false s'_2.code, I s'_2.atx, .val (.int .u64 s'_2.seed)])] [CallOK Tryd.prog 38 [.ref 7001 0, I 200] (lookO [(7001, .box [slU8 false s'_1.code, I s'_1.atx, .val (.int .u64 s'_1.seed)])]) true (I v_2) (lookO [(7001, .box [slU8 false s'_2.code, I s'_2.atx, .val (.int .u64 s'_2.seed)])]) ∧ ((.ref 7001 0 : AV) = .ref 7001 0) ∧ ((I 200 : AV) = I 200) ∧ (((.box [slU8 false s'_1.code, I s'_1.atx, .val (.int .u64 s'_1.seed)] : Ob) = .box [slU8 false s'_1.code, I s'_1.atx, .val (.int .u64 s'_1.seed)] ∨ obLe noOb true (.box [slU8 false s'_1.code, I s'_1.atx, .val (.int .u64 s'_1.seed)]) (.box [slU8 false s'_1.code, I s'_1.atx, .val (.int .u64 s'_1.seed)])) ∧ taggedO false (.box [slU8 false s'_1.code, I s'_1.atx, .val (.int .u64 s'_1.seed)])) ∧ True, inR .i64 (v_2 - 100)] (by kernel_rfl) ⟨⟨hc2, rfl, rfl, ⟨.inl rfl, (by simp [taggedO, taggedL, tagged, tagU8])⟩, trivial⟩, (inR_i64 (by omega) (by omega)), trivial⟩ ?_
    refine xe_then ?_
    refine x_seq ?_
    obtain ⟨v_3, s'_3, hx3_0, hx3_1, hx3_2, hx3_3, hc3⟩ := pick_ok s'_2 60 (by first | assumption | (simp only [okSrc] at *; simp_all; done)) (by omega)
    refine x_reg [(1, .lend [(7001, .box [slU8 false s'_2.code, I s'_2.atx, .val (.int .u64 s'_2.seed)], .box [slU8 false s'_3.code, I s'_3.atx, .val (.int .u64 s'_3.seed)])] [] [(true, .ref 7001 0), (true, I 60)] true (I v_3))] [4, 5, 6] [7001] [.ref 7001 0, I (v_2 - 100), I (v_3 - 20)] [some (.box [slU8 false s'_3.code, I s'_3.atx, .val (.int .u64 s'_3.seed)])] [CallOK Tryd.prog 38 [.ref 7001 0, I 60] (lookO [(7001, .box [slU8 false s'_2.code, I s'_2.atx, .val (.int .u64 s'_2.seed)])]) true (I v_3) (lookO [(7001, .box [slU8 false s'_3.code, I s'_3.atx, .val (.int .u64 s'_3.seed)])]) ∧ ((.ref 7001 0 : AV) = .ref 7001 0) ∧ ((I 60 : AV) = I 60) ∧ (((.box [slU8 false s'_2.code, I s'_2.atx, .val (.int .u64 s'_2.seed)] : Ob) = .box [slU8 false s'_2.code, I s'_2.atx, .val (.int .u64 s'_2.seed)] ∨ obLe noOb true (.box [slU8 false s'_2.code, I s'_2.atx, .val (.int .u64 s'_2.seed)]) (.box [slU8 false s'_2.code, I s'_2.atx, .val (.int .u64 s'_2.seed)])) ∧ taggedO false (.box [slU8 false s'_2.code, I s'_2.atx, .val (.int .u64 s'_2.seed)])) ∧ True, inR .i64 (v_3 - 20)] (by kernel_rfl) ⟨⟨hc3, rfl, rfl, ⟨.inl rfl, (by simp [taggedO, taggedL, tagged, tagU8])⟩, trivial⟩, (inR_i64 (by omega) (by omega)), trivial⟩ ?_
    refine xe_then ?_
    refine x_seq ?_
    refine x_seq ?_
    obtain ⟨v_4, s'_4, hx4_0, hx4_1, hx4_2, hc4⟩ := one_ok s'_3 8 (by first | assumption | (simp only [okSrc] at *; simp_all; done)) (by omega)
    rcases Bool.eq_false_or_eq_true v_4 with h1 | h1
    · subst h1
      refine x_reg [(1, .lend [(7001, .box [slU8 false s'_3.code, I s'_3.atx, .val (.int .u64 s'_3.seed)], .box [slU8 false s'_4.code, I s'_4.atx, .val (.int .u64 s'_4.seed)])] [] [(true, .ref 7001 0), (true, I 8)] true (Bv true))] [4, 5, 6, 16] [7001] [.ref 7001 0, I (v_2 - 100), I (v_3 - 20), Bv true] [some (.box [slU8 false s'_4.code, I s'_4.atx, .val (.int .u64 s'_4.seed)])] [CallOK Tryd.prog 39 [.ref 7001 0, I 8] (lookO [(7001, .box [slU8 false s'_3.code, I s'_3.atx, .val (.int .u64 s'_3.seed)])]) true (Bv true) (lookO [(7001, .box [slU8 false s'_4.code, I s'_4.atx, .val (.int .u64 s'_4.seed)])]) ∧ ((.ref 7001 0 : AV) = .ref 7001 0) ∧ ((I 8 : AV) = I 8) ∧ (((.box [slU8 false s'_3.code, I s'_3.atx, .val (.int .u64 s'_3.seed)] : Ob) = .box [slU8 false s'_3.code, I s'_3.atx, .val (.int .u64 s'_3.seed)] ∨ obLe noOb true (.box [slU8 false s'_3.code, I s'_3.atx, .val (.int .u64 s'_3.seed)]) (.box [slU8 false s'_3.code, I s'_3.atx, .val (.int .u64 s'_3.seed)])) ∧ taggedO false (.box [slU8 false s'_3.code, I s'_3.atx, .val (.int .u64 s'_3.seed)])) ∧ True] (by kernel_rfl) ⟨⟨hc4, rfl, rfl, ⟨.inl rfl, (by simp [taggedO, taggedL, tagged, tagU8])⟩, trivial⟩, trivial⟩ ?_
      refine xe_then ?_
      refine x_true rfl ?_
      refine x_seq ?_
      obtain ⟨v_5, s'_5, hx5_0, hx5_1, hx5_2, hx5_3, hc5⟩ := among_ok s'_4 ([1000000000000000000, 1000000000000000001, (-9223372036854775808), 3000000000]) (by first | assumption | (simp only [okSrc] at *; simp_all; done)) (by omega) (by simp)
      refine x_reg [(1, .new 18), (2, .lend [(7001, .box [slU8 false s'_4.code, I s'_4.atx, .val (.int .u64 s'_4.seed)], .box [slU8 false s'_5.code, I s'_5.atx, .val (.int .u64 s'_5.seed)])] [] [(true, .ref 7001 0), (false, slI false ([1000000000000000000, 1000000000000000001, (-9223372036854775808), 3000000000]))] true (I v_5))] [4, 5, 6] [7001] [.ref 7001 0, I v_5, I (v_3 - 20)] [some (.box [slU8 false s'_5.code, I s'_5.atx, .val (.int .u64 s'_5.seed)])] [CallOK Tryd.prog 40 [.ref 7001 0, slI false ([1000000000000000000, 1000000000000000001, (-9223372036854775808), 3000000000])] (lookO [(7001, .box [slU8 false s'_4.code, I s'_4.atx, .val (.int .u64 s'_4.seed)])]) true (I v_5) (lookO [(7001, .box [slU8 false s'_5.code, I s'_5.atx, .val (.int .u64 s'_5.seed)])]) ∧ ((.ref 7001 0 : AV) = .ref 7001 0) ∧ ((false = true → true = true) ∧ 1 = 1 ∧ 4 = (([1000000000000000000, 1000000000000000001, (-9223372036854775808), 3000000000]).length) ∧ ∀ i, i < (([1000000000000000000, 1000000000000000001, (-9223372036854775808), 3000000000]).length) → (litF [I 1000000000000000000, I 1000000000000000001, I (-9223372036854775808), I 3000000000] 1) i = (fI ([1000000000000000000, 1000000000000000001, (-9223372036854775808), 3000000000])) i ∨ (AV.idsL ((fI ([1000000000000000000, 1000000000000000001, (-9223372036854775808), 3000000000])) i) = [] ∧ leL (fun _ => none) false ((litF [I 1000000000000000000, I 1000000000000000001, I (-9223372036854775808), I 3000000000] 1) i) ((fI ([1000000000000000000, 1000000000000000001, (-9223372036854775808), 3000000000])) i))) ∧ (((.box [slU8 false s'_4.code, I s'_4.atx, .val (.int .u64 s'_4.seed)] : Ob) = .box [slU8 false s'_4.code, I s'_4.atx, .val (.int .u64 s'_4.seed)] ∨ obLe noOb true (.box [slU8 false s'_4.code, I s'_4.atx, .val (.int .u64 s'_4.seed)]) (.box [slU8 false s'_4.code, I s'_4.atx, .val (.int .u64 s'_4.seed)])) ∧ taggedO false (.box [slU8 false s'_4.code, I s'_4.atx, .val (.int .u64 s'_4.seed)])) ∧ True] (by kernel_rfl) ⟨⟨hc5, rfl, ⟨(fun h => by cases h), rfl, (by first | rfl | (simp; done) | (simp; omega) | omega), fun i hi => .inl (match i, hi with | 0, _ => rfl | 1, _ => rfl | 2, _ => rfl | 3, _ => rfl | (i + 4), h => absurd h (by simp))⟩, ⟨.inl rfl, (by simp [taggedO, taggedL, tagged, tagU8])⟩, trivial⟩, trivial⟩ ?_
      refine xe_then ?_
      obtain ⟨v_6, s'_6, hx6_0, hx6_1, hx6_2, hx6_3, hc6⟩ := among_ok s'_5 ([(v_3 - 20), 3, 1000000000000000000, (-9223372036854775808)]) (by first | assumption | (simp only [okSrc] at *; simp_all; done)) (by omega) (by simp)
      refine x_reg [(2, .new 22), (3, .lend [(7001, .box [slU8 false s'_5.code, I s'_5.atx, .val (.int .u64 s'_5.seed)], .box [slU8 false s'_6.code, I s'_6.atx, .val (.int .u64 s'_6.seed)])] [] [(true, .ref 7001 0), (false, slI false ([(v_3 - 20), 3, 1000000000000000000, (-9223372036854775808)]))] true (I v_6))] [5, 6] [] [I v_5, I v_6] [] [CallOK Tryd.prog 40 [.ref 7001 0, slI false ([(v_3 - 20), 3, 1000000000000000000, (-9223372036854775808)])] (lookO [(7001, .box [slU8 false s'_5.code, I s'_5.atx, .val (.int .u64 s'_5.seed)])]) true (I v_6) (lookO [(7001, .box [slU8 false s'_6.code, I s'_6.atx, .val (.int .u64 s'_6.seed)])]) ∧ ((.ref 7001 0 : AV) = .ref 7001 0) ∧ ((false = true → true = true) ∧ 1 = 1 ∧ 4 = (([(v_3 - 20), 3, 1000000000000000000, (-9223372036854775808)]).length) ∧ ∀ i, i < (([(v_3 - 20), 3, 1000000000000000000, (-9223372036854775808)]).length) → (litF [I (v_3 - 20), I 3, I 1000000000000000000, I (-9223372036854775808)] 1) i = (fI ([(v_3 - 20), 3, 1000000000000000000, (-9223372036854775808)])) i ∨ (AV.idsL ((fI ([(v_3 - 20), 3, 1000000000000000000, (-9223372036854775808)])) i) = [] ∧ leL (fun _ => none) false ((litF [I (v_3 - 20), I 3, I 1000000000000000000, I (-9223372036854775808)] 1) i) ((fI ([(v_3 - 20), 3, 1000000000000000000, (-9223372036854775808)])) i))) ∧ (((.box [slU8 false s'_5.code, I s'_5.atx, .val (.int .u64 s'_5.seed)] : Ob) = .box [slU8 false s'_5.code, I s'_5.atx, .val (.int .u64 s'_5.seed)] ∨ obLe noOb true (.box [slU8 false s'_5.code, I s'_5.atx, .val (.int .u64 s'_5.seed)]) (.box [slU8 false s'_5.code, I s'_5.atx, .val (.int .u64 s'_5.seed)])) ∧ taggedO false (.box [slU8 false s'_5.code, I s'_5.atx, .val (.int .u64 s'_5.seed)])) ∧ True] (by kernel_rfl) ⟨⟨hc6, rfl, ⟨(fun h => by cases h), rfl, (by first | rfl | (simp; done) | (simp; omega) | omega), fun i hi => .inl (match i, hi with | 0, _ => rfl | 1, _ => rfl | 2, _ => rfl | 3, _ => rfl | (i + 4), h => absurd h (by simp))⟩, ⟨.inl rfl, (by simp [taggedO, taggedL, tagged, tagU8])⟩, trivial⟩, trivial⟩ ?_
      refine xe_then ?_
      refine x_seq ?_
      refine x_reg [] [2, 3] [] [I v_5, I v_6] [] [] (by kernel_rfl) trivial ?_
      refine xe_then ?_
      refine x_ret ?_
      refine xe_end (v_5, v_6) trivial (trivial) (.tup [I v_5, I v_6]) (by kernel_rfl) (.inl rfl) (fun _ => rfl) (fun _ => (by simp [tagged, taggedL]))
    · subst h1
      refine x_reg [(1, .lend [(7001, .box [slU8 false s'_3.code, I s'_3.atx, .val (.int .u64 s'_3.seed)], .box [slU8 false s'_4.code, I s'_4.atx, .val (.int .u64 s'_4.seed)])] [] [(true, .ref 7001 0), (true, I 8)] true (Bv false))] [4, 5, 6, 16] [7001] [.ref 7001 0, I (v_2 - 100), I (v_3 - 20), Bv false] [some (.box [slU8 false s'_4.code, I s'_4.atx, .val (.int .u64 s'_4.seed)])] [CallOK Tryd.prog 39 [.ref 7001 0, I 8] (lookO [(7001, .box [slU8 false s'_3.code, I s'_3.atx, .val (.int .u64 s'_3.seed)])]) true (Bv false) (lookO [(7001, .box [slU8 false s'_4.code, I s'_4.atx, .val (.int .u64 s'_4.seed)])]) ∧ ((.ref 7001 0 : AV) = .ref 7001 0) ∧ ((I 8 : AV) = I 8) ∧ (((.box [slU8 false s'_3.code, I s'_3.atx, .val (.int .u64 s'_3.seed)] : Ob) = .box [slU8 false s'_3.code, I s'_3.atx, .val (.int .u64 s'_3.seed)] ∨ obLe noOb true (.box [slU8 false s'_3.code, I s'_3.atx, .val (.int .u64 s'_3.seed)]) (.box [slU8 false s'_3.code, I s'_3.atx, .val (.int .u64 s'_3.seed)])) ∧ taggedO false (.box [slU8 false s'_3.code, I s'_3.atx, .val (.int .u64 s'_3.seed)])) ∧ True] (by kernel_rfl) ⟨⟨hc4, rfl, rfl, ⟨.inl rfl, (by simp [taggedO, taggedL, tagged, tagU8])⟩, trivial⟩, trivial⟩ ?_
      refine xe_then ?_
      refine x_false rfl ?_
      refine x_skip ?_
      refine xe_then ?_
      refine x_seq ?_
      refine x_reg [] [2, 3] [] [I (v_2 - 100), I (v_3 - 20)] [] [] (by kernel_rfl) trivial ?_
      refine xe_then ?_
      refine x_ret ?_
      refine xe_end ((v_2 - 100), (v_3 - 20)) trivial (trivial) (.tup [I (v_2 - 100), I (v_3 - 20)]) (by kernel_rfl) (.inl rfl) (fun _ => rfl) (fun _ => (by simp [tagged, taggedL]))
  obtain ⟨⟨n, d⟩, _, hc⟩ := hh
  exact ⟨n, d, hc⟩


-- impl.MakeFraction
theorem implMakeFraction_ok (num : Int) (den : Int) : Con Tryd.prog 18 [I num, I den] true (.tup [.agg [I (((makeR num den).1).Num), I (((makeR num den).1).Den)], I ((makeR num den).2)]) := by
  refine fn_ok (fn := Tryd.f18) (nt := 24) Tryd.func18 rfl rfl rfl rfl (by simp [taggedL, tagged]) fun B hB => ?_
  refine aw_seq ?_
  refine aw_reg [(0, .new 4)] [0, 1, 4] [4] [I num, I den, .ref 4 0] [some (.box [I 0, I 0])] [] (by kernel_rfl) hB trivial ?_
  refine ae_then ?_
  refine aw_seq ?_
  refine aw_seq ?_
  rcases Bool.eq_false_or_eq_true (inB num (-1000000000000000000) 1000000000000000000) with h1 | h1
  · have hinh1 := inB_iff.1 h1
    rcases Bool.eq_false_or_eq_true (inB den (-1000000000000000000) 1000000000000000000) with h2 | h2
    · have hinh2 := inB_iff.1 h2
      by_cases h3 : den = 0
      · refine aw_reg [(1, .call [(true, I num), (true, I (-1000000000000000000)), (true, I 1000000000000000000)] true (Bv true)), (5, .call [(true, I den), (true, I (-1000000000000000000)), (true, I 1000000000000000000)] true (Bv true)), (10, .dec true)] [0, 1, 4, 17] [4] [I num, I den, .ref 4 0, Bv true] [some (.box [I 0, I 0])] [Con Tryd.prog 41 [I num, I (-1000000000000000000), I 1000000000000000000] true (Bv true) ∧ ((I num : AV) = I num) ∧ ((I (-1000000000000000000) : AV) = I (-1000000000000000000)) ∧ ((I 1000000000000000000 : AV) = I 1000000000000000000) ∧ True, Con Tryd.prog 41 [I den, I (-1000000000000000000), I 1000000000000000000] true (Bv true) ∧ ((I den : AV) = I den) ∧ ((I (-1000000000000000000) : AV) = I (-1000000000000000000)) ∧ ((I 1000000000000000000 : AV) = I 1000000000000000000) ∧ True, den = 0] (by kernel_rfl) hB ⟨⟨(con_bool h1 (within_ok num (-1000000000000000000) 1000000000000000000)), rfl, rfl, rfl, trivial⟩, ⟨(con_bool h2 (within_ok den (-1000000000000000000) 1000000000000000000)), rfl, rfl, rfl, trivial⟩, h3, trivial⟩ ?_
        refine ae_then ?_
        refine aw_true rfl ?_
        refine aw_seq ?_
        refine aw_reg [] [4, 5] [4] [.ref 4 0, I 2] [some (.box [I 0, I 0])] [] (by kernel_rfl) hB trivial ?_
        refine ae_then ?_
        refine aw_ret ?_
        refine ae_ret_then ?_
        refine ae_ret hB (.tup [.agg [I 0, I 0], I 2]) (by kernel_rfl) (.inl (by simp [makeR, codeR_red, *])) rfl (fun _ => (by simp [tagged, taggedL]))
      · refine aw_reg [(1, .call [(true, I num), (true, I (-1000000000000000000)), (true, I 1000000000000000000)] true (Bv true)), (5, .call [(true, I den), (true, I (-1000000000000000000)), (true, I 1000000000000000000)] true (Bv true)), (10, .dec false)] [0, 1, 4, 17] [4] [I num, I den, .ref 4 0, Bv false] [some (.box [I 0, I 0])] [Con Tryd.prog 41 [I num, I (-1000000000000000000), I 1000000000000000000] true (Bv true) ∧ ((I num : AV) = I num) ∧ ((I (-1000000000000000000) : AV) = I (-1000000000000000000)) ∧ ((I 1000000000000000000 : AV) = I 1000000000000000000) ∧ True, Con Tryd.prog 41 [I den, I (-1000000000000000000), I 1000000000000000000] true (Bv true) ∧ ((I den : AV) = I den) ∧ ((I (-1000000000000000000) : AV) = I (-1000000000000000000)) ∧ ((I 1000000000000000000 : AV) = I 1000000000000000000) ∧ True, ¬ (den = 0)] (by kernel_rfl) hB ⟨⟨(con_bool h1 (within_ok num (-1000000000000000000) 1000000000000000000)), rfl, rfl, rfl, trivial⟩, ⟨(con_bool h2 (within_ok den (-1000000000000000000) 1000000000000000000)), rfl, rfl, rfl, trivial⟩, h3, trivial⟩ ?_
        refine ae_then ?_
        refine aw_false rfl ?_
        refine aw_skip ?_
        refine ae_then ?_
        refine aw_seq ?_
        refine aw_reg [(2, .call [(true, I num), (true, I den)] true (.tup [.agg [I (((redR num den).1).Num), I (((redR num den).1).Den)], I ((redR num den).2)]))] [4, 5] [4] [.ref 4 0, I ((redR num den).2)] [some (.box [I (((redR num den).1).Num), I (((redR num den).1).Den)])] [Con Tryd.prog 30 [I num, I den] true (.tup [.agg [I (((redR num den).1).Num), I (((redR num den).1).Den)], I ((redR num den).2)]) ∧ ((I num : AV) = I num) ∧ ((I den : AV) = I den) ∧ True] (by kernel_rfl) hB ⟨⟨(reduced_ok num den (by omega) (by omega)), rfl, rfl, trivial⟩, trivial⟩ ?_
        refine ae_then ?_
        refine aw_ret ?_
        refine ae_ret hB (.tup [.agg [I (((redR num den).1).Num), I (((redR num den).1).Den)], I ((redR num den).2)]) (by kernel_rfl) (.inl (by simp [makeR, codeR_red, *])) rfl (fun _ => (by simp [tagged, taggedL]))
    · have hinh2 := (not_congr inB_iff).1 (Bool.eq_false_iff.1 h2)
      refine aw_reg [(1, .call [(true, I num), (true, I (-1000000000000000000)), (true, I 1000000000000000000)] true (Bv true)), (5, .call [(true, I den), (true, I (-1000000000000000000)), (true, I 1000000000000000000)] true (Bv false))] [0, 1, 4, 17] [4] [I num, I den, .ref 4 0, Bv true] [some (.box [I 0, I 0])] [Con Tryd.prog 41 [I num, I (-1000000000000000000), I 1000000000000000000] true (Bv true) ∧ ((I num : AV) = I num) ∧ ((I (-1000000000000000000) : AV) = I (-1000000000000000000)) ∧ ((I 1000000000000000000 : AV) = I 1000000000000000000) ∧ True, Con Tryd.prog 41 [I den, I (-1000000000000000000), I 1000000000000000000] true (Bv false) ∧ ((I den : AV) = I den) ∧ ((I (-1000000000000000000) : AV) = I (-1000000000000000000)) ∧ ((I 1000000000000000000 : AV) = I 1000000000000000000) ∧ True] (by kernel_rfl) hB ⟨⟨(con_bool h1 (within_ok num (-1000000000000000000) 1000000000000000000)), rfl, rfl, rfl, trivial⟩, ⟨(con_bool h2 (within_ok den (-1000000000000000000) 1000000000000000000)), rfl, rfl, rfl, trivial⟩, trivial⟩ ?_
      refine ae_then ?_
      refine aw_true rfl ?_
      refine aw_seq ?_
      refine aw_reg [] [4, 5] [4] [.ref 4 0, I 2] [some (.box [I 0, I 0])] [] (by kernel_rfl) hB trivial ?_
      refine ae_then ?_
      refine aw_ret ?_
      refine ae_ret_then ?_
      refine ae_ret hB (.tup [.agg [I 0, I 0], I 2]) (by kernel_rfl) (.inl (by simp [makeR, codeR_red, *])) rfl (fun _ => (by simp [tagged, taggedL]))
  · have hinh1 := (not_congr inB_iff).1 (Bool.eq_false_iff.1 h1)
    refine aw_reg [(1, .call [(true, I num), (true, I (-1000000000000000000)), (true, I 1000000000000000000)] true (Bv false))] [0, 1, 4, 17] [4] [I num, I den, .ref 4 0, Bv true] [some (.box [I 0, I 0])] [Con Tryd.prog 41 [I num, I (-1000000000000000000), I 1000000000000000000] true (Bv false) ∧ ((I num : AV) = I num) ∧ ((I (-1000000000000000000) : AV) = I (-1000000000000000000)) ∧ ((I 1000000000000000000 : AV) = I 1000000000000000000) ∧ True] (by kernel_rfl) hB ⟨⟨(con_bool h1 (within_ok num (-1000000000000000000) 1000000000000000000)), rfl, rfl, rfl, trivial⟩, trivial⟩ ?_
    refine ae_then ?_
    refine aw_true rfl ?_
    refine aw_seq ?_
    refine aw_reg [] [4, 5] [4] [.ref 4 0, I 2] [some (.box [I 0, I 0])] [] (by kernel_rfl) hB trivial ?_
    refine ae_then ?_
    refine aw_ret ?_
    refine ae_ret_then ?_
    refine ae_ret hB (.tup [.agg [I 0, I 0], I 2]) (by kernel_rfl) (.inl (by simp [makeR, codeR_red, *])) rfl (fun _ => (by simp [tagged, taggedL]))


-- spec.MakeFraction
theorem specMakeFraction_ok (num : Int) (den : Int) : Con Tryd.prog 19 [I num, I den] true (.tup [.agg [I (((makeR num den).1).Num), I (((makeR num den).1).Den)], I ((makeR num den).2)]) := by
  refine fn_ok (fn := Tryd.f19) (nt := 40) Tryd.func19 rfl rfl rfl rfl (by simp [taggedL, tagged]) fun B hB => ?_
  refine aw_seq ?_
  refine aw_reg [(0, .new 4)] [0, 1, 4] [4] [I num, I den, .ref 4 0] [some (.box [I 0, I 0])] [] (by kernel_rfl) hB trivial ?_
  refine ae_then ?_
  refine aw_seq ?_
  refine aw_reg [] [0, 1, 4, 6] [4] [I num, I den, .ref 4 0, I 1000000000000000000] [some (.box [I 0, I 0])] [] (by kernel_rfl) hB trivial ?_
  refine ae_then ?_
  refine aw_seq ?_
  refine aw_seq ?_
  rcases Bool.eq_false_or_eq_true (inB num (-1000000000000000000) 1000000000000000000) with h1 | h1
  · have hinh1 := inB_iff.1 h1
    rcases Bool.eq_false_or_eq_true (inB den (-1000000000000000000) 1000000000000000000) with h2 | h2
    · have hinh2 := inB_iff.1 h2
      by_cases h3 : den = 0
      · refine aw_reg [(4, .call [(true, I num), (true, I (-1000000000000000000)), (true, I 1000000000000000000)] true (Bv true)), (11, .call [(true, I den), (true, I (-1000000000000000000)), (true, I 1000000000000000000)] true (Bv true)), (16, .dec true)] [0, 1, 4, 24] [4] [I num, I den, .ref 4 0, Bv true] [some (.box [I 0, I 0])] [inR .i64 (-1000000000000000000), Con Tryd.prog 43 [I num, I (-1000000000000000000), I 1000000000000000000] true (Bv true) ∧ ((I num : AV) = I num) ∧ ((I (-1000000000000000000) : AV) = I (-1000000000000000000)) ∧ ((I 1000000000000000000 : AV) = I 1000000000000000000) ∧ True, inR .i64 (-1000000000000000000), Con Tryd.prog 43 [I den, I (-1000000000000000000), I 1000000000000000000] true (Bv true) ∧ ((I den : AV) = I den) ∧ ((I (-1000000000000000000) : AV) = I (-1000000000000000000)) ∧ ((I 1000000000000000000 : AV) = I 1000000000000000000) ∧ True, den = 0] (by kernel_rfl) hB ⟨(inR_i64 (by omega) (by omega)), ⟨(con_bool h1 (l00In_ok num (-1000000000000000000) 1000000000000000000)), rfl, rfl, rfl, trivial⟩, (inR_i64 (by omega) (by omega)), ⟨(con_bool h2 (l00In_ok den (-1000000000000000000) 1000000000000000000)), rfl, rfl, rfl, trivial⟩, h3, trivial⟩ ?_
        refine ae_then ?_
        refine aw_true rfl ?_
        refine aw_seq ?_
        refine aw_reg [] [4, 5] [4] [.ref 4 0, I 2] [some (.box [I 0, I 0])] [] (by kernel_rfl) hB trivial ?_
        refine ae_then ?_
        refine aw_ret ?_
        refine ae_ret_then ?_
        refine ae_ret hB (.tup [.agg [I 0, I 0], I 2]) (by kernel_rfl) (.inl (by simp [makeR, codeR_red, *])) rfl (fun _ => (by simp [tagged, taggedL]))
      · refine aw_reg [(4, .call [(true, I num), (true, I (-1000000000000000000)), (true, I 1000000000000000000)] true (Bv true)), (11, .call [(true, I den), (true, I (-1000000000000000000)), (true, I 1000000000000000000)] true (Bv true)), (16, .dec false)] [0, 1, 4, 24] [4] [I num, I den, .ref 4 0, Bv false] [some (.box [I 0, I 0])] [inR .i64 (-1000000000000000000), Con Tryd.prog 43 [I num, I (-1000000000000000000), I 1000000000000000000] true (Bv true) ∧ ((I num : AV) = I num) ∧ ((I (-1000000000000000000) : AV) = I (-1000000000000000000)) ∧ ((I 1000000000000000000 : AV) = I 1000000000000000000) ∧ True, inR .i64 (-1000000000000000000), Con Tryd.prog 43 [I den, I (-1000000000000000000), I 1000000000000000000] true (Bv true) ∧ ((I den : AV) = I den) ∧ ((I (-1000000000000000000) : AV) = I (-1000000000000000000)) ∧ ((I 1000000000000000000 : AV) = I 1000000000000000000) ∧ True, ¬ (den = 0)] (by kernel_rfl) hB ⟨(inR_i64 (by omega) (by omega)), ⟨(con_bool h1 (l00In_ok num (-1000000000000000000) 1000000000000000000)), rfl, rfl, rfl, trivial⟩, (inR_i64 (by omega) (by omega)), ⟨(con_bool h2 (l00In_ok den (-1000000000000000000) 1000000000000000000)), rfl, rfl, rfl, trivial⟩, h3, trivial⟩ ?_
        refine ae_then ?_
        refine aw_false rfl ?_
        refine aw_skip ?_
        refine ae_then ?_
        refine aw_seq ?_
        refine aw_seq ?_
        by_cases h4 : den < 0
        · have hfl := redR_flip (n := num) h4
          refine aw_reg [(1, .dec true)] [0, 1, 4, 27] [4] [I num, I den, .ref 4 0, Bv true] [some (.box [I 0, I 0])] [den < 0] (by kernel_rfl) hB ⟨h4, trivial⟩ ?_
          refine ae_then ?_
          refine aw_true rfl ?_
          refine aw_seq ?_
          refine aw_reg [] [0, 1, 4] [4] [I (-num), I den, .ref 4 0] [some (.box [I 0, I 0])] [inR .i64 (-num)] (by kernel_rfl) hB ⟨(inR_i64 (by omega) (by omega)), trivial⟩ ?_
          refine ae_then ?_
          refine aw_reg [] [0, 1, 4] [4] [I (-num), I (-den), .ref 4 0] [some (.box [I 0, I 0])] [inR .i64 (-den)] (by kernel_rfl) hB ⟨(inR_i64 (by omega) (by omega)), trivial⟩ ?_
          refine ae_then ?_
          refine aw_seq ?_
          refine aw_reg [(2, .call [(true, I (-num)), (true, I (-den))] true (.tup [.agg [I ((redF (-num) (-den)).Num), I ((redF (-num) (-den)).Den)], Bv (okFr (redF (-num) (-den)))])), (5, .call [(true, .agg [I ((redF (-num) (-den)).Num), I ((redF (-num) (-den)).Den)]), (true, Bv (okFr (redF (-num) (-den))))] true (.tup [.agg [I (((codeR (redF (-num) (-den)) (okFr (redF (-num) (-den)))).1).Num), I (((codeR (redF (-num) (-den)) (okFr (redF (-num) (-den)))).1).Den)], I ((codeR (redF (-num) (-den)) (okFr (redF (-num) (-den)))).2)]))] [4, 5] [4] [.ref 4 0, I ((codeR (redF (-num) (-den)) (okFr (redF (-num) (-den)))).2)] [some (.box [I (((codeR (redF (-num) (-den)) (okFr (redF (-num) (-den)))).1).Num), I (((codeR (redF (-num) (-den)) (okFr (redF (-num) (-den)))).1).Den)])] [Con Tryd.prog 33 [I (-num), I (-den)] true (.tup [.agg [I ((redF (-num) (-den)).Num), I ((redF (-num) (-den)).Den)], Bv (okFr (redF (-num) (-den)))]) ∧ ((I (-num) : AV) = I (-num)) ∧ ((I (-den) : AV) = I (-den)) ∧ True, Con Tryd.prog 32 [.agg [I ((redF (-num) (-den)).Num), I ((redF (-num) (-den)).Den)], Bv (okFr (redF (-num) (-den)))] true (.tup [.agg [I (((codeR (redF (-num) (-den)) (okFr (redF (-num) (-den)))).1).Num), I (((codeR (redF (-num) (-den)) (okFr (redF (-num) (-den)))).1).Den)], I ((codeR (redF (-num) (-den)) (okFr (redF (-num) (-den)))).2)]) ∧ ((.agg [I ((redF (-num) (-den)).Num), I ((redF (-num) (-den)).Den)] : AV) = .agg [I ((redF (-num) (-den)).Num), I ((redF (-num) (-den)).Den)]) ∧ ((Bv (okFr (redF (-num) (-den))) : AV) = Bv (okFr (redF (-num) (-den)))) ∧ True] (by kernel_rfl) hB ⟨⟨(l22Make_ok (-num) (-den) (by omega) (by omega)), rfl, rfl, trivial⟩, ⟨(l22Code_ok (redF (-num) (-den)) (okFr (redF (-num) (-den)))), rfl, rfl, trivial⟩, trivial⟩ ?_
          refine ae_then ?_
          refine aw_ret ?_
          refine ae_ret hB (.tup [.agg [I (((codeR (redF (-num) (-den)) (okFr (redF (-num) (-den)))).1).Num), I (((codeR (redF (-num) (-den)) (okFr (redF (-num) (-den)))).1).Den)], I ((codeR (redF (-num) (-den)) (okFr (redF (-num) (-den)))).2)]) (by kernel_rfl) (.inl (by simp [makeR, codeR_red, *])) rfl (fun _ => (by simp [tagged, taggedL]))
        · refine aw_reg [(1, .dec false)] [0, 1, 4, 27] [4] [I num, I den, .ref 4 0, Bv false] [some (.box [I 0, I 0])] [¬ (den < 0)] (by kernel_rfl) hB ⟨h4, trivial⟩ ?_
          refine ae_then ?_
          refine aw_false rfl ?_
          refine aw_skip ?_
          refine ae_then ?_
          refine aw_seq ?_
          refine aw_reg [(2, .call [(true, I num), (true, I den)] true (.tup [.agg [I ((redF num den).Num), I ((redF num den).Den)], Bv (okFr (redF num den))])), (5, .call [(true, .agg [I ((redF num den).Num), I ((redF num den).Den)]), (true, Bv (okFr (redF num den)))] true (.tup [.agg [I (((codeR (redF num den) (okFr (redF num den))).1).Num), I (((codeR (redF num den) (okFr (redF num den))).1).Den)], I ((codeR (redF num den) (okFr (redF num den))).2)]))] [4, 5] [4] [.ref 4 0, I ((codeR (redF num den) (okFr (redF num den))).2)] [some (.box [I (((codeR (redF num den) (okFr (redF num den))).1).Num), I (((codeR (redF num den) (okFr (redF num den))).1).Den)])] [Con Tryd.prog 33 [I num, I den] true (.tup [.agg [I ((redF num den).Num), I ((redF num den).Den)], Bv (okFr (redF num den))]) ∧ ((I num : AV) = I num) ∧ ((I den : AV) = I den) ∧ True, Con Tryd.prog 32 [.agg [I ((redF num den).Num), I ((redF num den).Den)], Bv (okFr (redF num den))] true (.tup [.agg [I (((codeR (redF num den) (okFr (redF num den))).1).Num), I (((codeR (redF num den) (okFr (redF num den))).1).Den)], I ((codeR (redF num den) (okFr (redF num den))).2)]) ∧ ((.agg [I ((redF num den).Num), I ((redF num den).Den)] : AV) = .agg [I ((redF num den).Num), I ((redF num den).Den)]) ∧ ((Bv (okFr (redF num den)) : AV) = Bv (okFr (redF num den))) ∧ True] (by kernel_rfl) hB ⟨⟨(l22Make_ok num den (by omega) (by omega)), rfl, rfl, trivial⟩, ⟨(l22Code_ok (redF num den) (okFr (redF num den))), rfl, rfl, trivial⟩, trivial⟩ ?_
          refine ae_then ?_
          refine aw_ret ?_
          refine ae_ret hB (.tup [.agg [I (((codeR (redF num den) (okFr (redF num den))).1).Num), I (((codeR (redF num den) (okFr (redF num den))).1).Den)], I ((codeR (redF num den) (okFr (redF num den))).2)]) (by kernel_rfl) (.inl (by simp [makeR, codeR_red, *])) rfl (fun _ => (by simp [tagged, taggedL]))
    · have hinh2 := (not_congr inB_iff).1 (Bool.eq_false_iff.1 h2)
      refine aw_reg [(4, .call [(true, I num), (true, I (-1000000000000000000)), (true, I 1000000000000000000)] true (Bv true)), (11, .call [(true, I den), (true, I (-1000000000000000000)), (true, I 1000000000000000000)] true (Bv false))] [0, 1, 4, 24] [4] [I num, I den, .ref 4 0, Bv true] [some (.box [I 0, I 0])] [inR .i64 (-1000000000000000000), Con Tryd.prog 43 [I num, I (-1000000000000000000), I 1000000000000000000] true (Bv true) ∧ ((I num : AV) = I num) ∧ ((I (-1000000000000000000) : AV) = I (-1000000000000000000)) ∧ ((I 1000000000000000000 : AV) = I 1000000000000000000) ∧ True, inR .i64 (-1000000000000000000), Con Tryd.prog 43 [I den, I (-1000000000000000000), I 1000000000000000000] true (Bv false) ∧ ((I den : AV) = I den) ∧ ((I (-1000000000000000000) : AV) = I (-1000000000000000000)) ∧ ((I 1000000000000000000 : AV) = I 1000000000000000000) ∧ True] (by kernel_rfl) hB ⟨(inR_i64 (by omega) (by omega)), ⟨(con_bool h1 (l00In_ok num (-1000000000000000000) 1000000000000000000)), rfl, rfl, rfl, trivial⟩, (inR_i64 (by omega) (by omega)), ⟨(con_bool h2 (l00In_ok den (-1000000000000000000) 1000000000000000000)), rfl, rfl, rfl, trivial⟩, trivial⟩ ?_
      refine ae_then ?_
      refine aw_true rfl ?_
      refine aw_seq ?_
      refine aw_reg [] [4, 5] [4] [.ref 4 0, I 2] [some (.box [I 0, I 0])] [] (by kernel_rfl) hB trivial ?_
      refine ae_then ?_
      refine aw_ret ?_
      refine ae_ret_then ?_
      refine ae_ret hB (.tup [.agg [I 0, I 0], I 2]) (by kernel_rfl) (.inl (by simp [makeR, codeR_red, *])) rfl (fun _ => (by simp [tagged, taggedL]))
  · have hinh1 := (not_congr inB_iff).1 (Bool.eq_false_iff.1 h1)
    refine aw_reg [(4, .call [(true, I num), (true, I (-1000000000000000000)), (true, I 1000000000000000000)] true (Bv false))] [0, 1, 4, 24] [4] [I num, I den, .ref 4 0, Bv true] [some (.box [I 0, I 0])] [inR .i64 (-1000000000000000000), Con Tryd.prog 43 [I num, I (-1000000000000000000), I 1000000000000000000] true (Bv false) ∧ ((I num : AV) = I num) ∧ ((I (-1000000000000000000) : AV) = I (-1000000000000000000)) ∧ ((I 1000000000000000000 : AV) = I 1000000000000000000) ∧ True] (by kernel_rfl) hB ⟨(inR_i64 (by omega) (by omega)), ⟨(con_bool h1 (l00In_ok num (-1000000000000000000) 1000000000000000000)), rfl, rfl, rfl, trivial⟩, trivial⟩ ?_
    refine ae_then ?_
    refine aw_true rfl ?_
    refine aw_seq ?_
    refine aw_reg [] [4, 5] [4] [.ref 4 0, I 2] [some (.box [I 0, I 0])] [] (by kernel_rfl) hB trivial ?_
    refine ae_then ?_
    refine aw_ret ?_
    refine ae_ret_then ?_
    refine ae_ret hB (.tup [.agg [I 0, I 0], I 2]) (by kernel_rfl) (.inl (by simp [makeR, codeR_red, *])) rfl (fun _ => (by simp [tagged, taggedL]))


-- spec.ValidFraction
theorem specValidFraction_ok (f : Fraction) : Con Tryd.prog 21 [.agg [I f.Num, I f.Den]] true (Bv (okFr f)) := by
  refine fn_ok (fn := Tryd.f21) (nt := 5) Tryd.func21 rfl rfl rfl rfl (by simp [taggedL, tagged]) fun B hB => ?_
  refine aw_seq ?_
  refine aw_reg [(0, .new 1)] [1] [1] [.ref 1 0] [some (.box [I f.Num, I f.Den])] [] (by kernel_rfl) hB trivial ?_
  refine ae_then ?_
  refine aw_seq ?_
  refine aw_reg [(1, .call [(true, .agg [I f.Num, I f.Den])] true (Bv (okFr f)))] [2] [] [Bv (okFr f)] [] [Con Tryd.prog 31 [.agg [I f.Num, I f.Den]] true (Bv (okFr f)) ∧ ((.agg [I f.Num, I f.Den] : AV) = .agg [I f.Num, I f.Den]) ∧ True] (by kernel_rfl) hB ⟨⟨(l22Ok_ok f), rfl, trivial⟩, trivial⟩ ?_
  refine ae_then ?_
  refine aw_ret ?_
  refine ae_ret hB (Bv (okFr f)) (by kernel_rfl) (.inl rfl) rfl (fun _ => trivial)


/-- The string with these bytes. -/
def strB (xs : List Int) : ByteArray := ⟨(xs.map fun n => UInt8.ofNat n.toNat).toArray⟩
theorem strB_size (xs : List Int) : (strB xs).size = xs.length := by simp [strB, ByteArray.size]
theorem strB_at {xs : List Int} {i : Nat} (h : i < xs.length) (hb : 0 ≤ at_ xs i ∧ at_ xs i ≤ 255) : bAt (strB xs) i = at_ xs i := by
  have e : (strB xs).data.toList[i]? = some (UInt8.ofNat (at_ xs i).toNat) := by simp [strB, at_, List.getElem?_eq_getElem h]
  rw [bAt, List.getD_eq_getElem?_getD, e]
  simp
  omega
theorem strB_ok' {xs : List Int} (h : ∀ x ∈ xs, 0 ≤ x ∧ x ≤ 255) {n : Nat} {f : Nat → List AV} (hn : n = xs.length) (hf : ∀ i, i < xs.length → f i = fU8 xs i ∨ False) : (strB xs).size = n ∧ ∀ i, i < n → f i = byteF (strB xs) i := by
  subst hn
  refine ⟨strB_size xs, fun i hi => ?_⟩
  rw [(hf i hi).resolve_right id]
  unfold byteF
  rw [strB_at hi (h _ (at_mem hi))]
  rfl
theorem strB_ok {xs : List Int} (h : ∀ x ∈ xs, 0 ≤ x ∧ x ≤ 255) : (strB xs).size = xs.length ∧ ∀ i, i < xs.length → fU8 xs i = byteF (strB xs) i := strB_ok' h rfl fun i _ => .inl rfl
theorem cat_one {α : Type} [Inhabited α] {enc : α → List AV} {x : α} {xs : List α} {g : Nat → List AV} (hx : g 0 = enc x) (i : Nat) (hi : i < ([x] ++ xs).length) : catF 1 g (fun i => enc (at_ xs i)) i = enc (at_ ([x] ++ xs) i) := by
  cases i with
  | zero => rw [catF_lt (by decide), hx]; rfl
  | succ i => rw [catF_ge (by omega), at_right (by simp)]; simp
/-- A string's bytes. -/
def bytesL (s : ByteArray) : List Int := s.data.toList.map fun b => (b.toNat : Int)
theorem bytesL_len (s : ByteArray) : (bytesL s).length = s.size := by unfold bytesL; rw [List.length_map, Array.length_toList]; rfl
theorem bytesL_at {s : ByteArray} (i : Nat) (h : i < (bytesL s).length) : byteF s i = fU8 (bytesL s) i := by
  unfold byteF fU8 cU8
  have h' : i < s.data.toList.length := by simpa [bytesL] using h
  congr 3
  simp only [bAt, at_, bytesL, List.getD_eq_getElem?_getD, List.getElem?_map, List.getElem?_eq_getElem h', Option.map_some, Option.getD_some]

/-- A number in decimal. -/
def decB (n : Int) : ByteArray := ⟨(Lib.itoa n).toArray⟩
/-- The digits of a number, none for 0. -/
def digs (u : Nat) : List Int := if h : u = 0 then [] else digs (u / 10) ++ [48 + ((u % 10 : Nat) : Int)]
termination_by u
decreasing_by omega
theorem digs_zero : digs 0 = [] := by rw [digs]; simp
theorem digs_pos {u : Nat} (h : u ≠ 0) : digs u = digs (u / 10) ++ [48 + ((u % 10 : Nat) : Int)] := by rw [digs]; simp [h]
theorem digs_len : ∀ (k u : Nat), u < 10 ^ k → (digs u).length ≤ k := by
  intro k
  induction k with
  | zero => intro u h; have : u = 0 := by simpa using h
            subst this; simp [digs_zero]
  | succ k ih =>
    intro u h
    by_cases e : u = 0
    · subst e; simp [digs_zero]
    · rw [digs_pos e]
      have := ih (u / 10) (by rw [Nat.pow_succ] at h; omega)
      simp; omega
theorem digs_bd : ∀ (u : Nat) (x : Int), x ∈ digs u → 0 ≤ x ∧ x ≤ 255 := by
  intro u
  induction u using Nat.strongRecOn with
  | _ u ih =>
    intro x hx
    by_cases e : u = 0
    · subst e; simp [digs_zero] at hx
    · rw [digs_pos e] at hx
      rcases List.mem_append.1 hx with h | h
      · exact ih (u / 10) (by omega) x h
      · simp at h; omega
theorem digs_dec : ∀ u : Nat, u ≠ 0 → (digs u).map (fun n => UInt8.ofNat n.toNat) = Lib.decDigits u := by
  intro u
  induction u using Nat.strongRecOn with
  | _ u ih =>
    intro e
    rw [digs_pos e, Lib.decDigits, List.map_append]
    by_cases h : u < 10
    · rw [dif_pos h, show u / 10 = 0 by omega, digs_zero]
      simp only [List.map_nil, List.nil_append, List.map_cons]
      congr 2
      omega
    · rw [dif_neg h, ih (u / 10) (by omega) (by omega)]
      simp only [List.map_cons, List.map_nil]
      congr 3
theorem decB_pos {n : Int} (h : 0 < n) : decB n = strB (digs n.natAbs) := by
  unfold decB strB Lib.itoa
  rw [if_neg (by omega), digs_dec _ (by omega), show n.toNat = n.natAbs by omega]
theorem decB_neg {n : Int} (h : n < 0) : decB n = (⟨#[45]⟩ : ByteArray) ++ strB (digs n.natAbs) := by
  unfold decB strB Lib.itoa
  rw [if_pos h, digs_dec _ (by omega)]
  apply ByteArray.ext
  rw [ByteArray.data_append]
  simp
theorem decB_zero : decB 0 = (⟨#[48]⟩ : ByteArray) := by
  unfold decB Lib.itoa
  rw [if_neg (by decide)]
  simp [Lib.decDigits]
theorem decDigits_len (u : Nat) : (Lib.decDigits u).length ≤ u + 1 := by
  induction u using Nat.strongRecOn with
  | _ u ih =>
    rw [Lib.decDigits]
    split
    · simp
    · have := ih (u / 10) (by omega)
      simp; omega
theorem strB_size' (xs : List Int) : (strB xs).size = xs.length := by simp [strB, ByteArray.size]
theorem decB_size {n : Int} (h : -9223372036854775808 ≤ n ∧ n ≤ 9223372036854775807) : (decB n).size ≤ 20 := by
  have hl := digs_len 19 n.natAbs (by omega)
  rcases Int.lt_trichotomy n 0 with h1 | h1 | h1
  · rw [decB_neg h1, ByteArray.size_append, strB_size']
    have : (⟨#[45]⟩ : ByteArray).size = 1 := rfl
    omega
  · subst h1; rw [decB_zero]; decide
  · rw [decB_pos h1, strB_size']; omega
theorem tdiv_abs (k : Int) : (Int.tdiv k 10).natAbs = k.natAbs / 10 := Int.natAbs_tdiv k 10
theorem tmod_abs (k : Int) : (Int.tmod k 10).natAbs = k.natAbs % 10 := Int.natAbs_tmod k 10

theorem digs_nil {u : Nat} (h : (digs u).length = 0) : u = 0 := by
  apply Classical.byContradiction
  intro e
  rw [digs_pos e] at h
  simp at h

-- strconv.FormatInt
theorem formatInt_ok (n base : Int) (h : -9223372036854775808 ≤ n ∧ n ≤ 9223372036854775807) (hb : base = 10) : Con Tryd.prog 57 [I n, I base] true (Sv (decB n)) := by
  subst hb
  refine con_of_calls (vals := [.int .i64 n, .int .i64 10]) fun w hw => ?_
  refine (Tryd.strconv_FormatInt_10 n h.1 h.2 w hw).mono ?_
  rintro e w' ⟨rfl, k, os, rfl⟩
  exact ⟨rfl, Lib.below_grow _ _ (Nat.le_refl _) k os⟩


-- impl.Decimal
theorem implDecimal_ok (n : Int) (hn : -9223372036854775808 ≤ n ∧ n ≤ 9223372036854775807) : Con Tryd.prog 46 [I n] true (Sv (decB n)) := by
  refine fn_ok (fn := Tryd.f46) (nt := 5) Tryd.func46 rfl rfl rfl rfl (by simp [taggedL, tagged]) fun B hB => ?_
  refine aw_seq ?_
  refine aw_reg [] [0] [] [I n] [] [] (by kernel_rfl) hB trivial ?_
  refine ae_then ?_
  refine aw_seq ?_
  refine aw_reg [(1, .call [(true, I n), (true, I 10)] true (Sv (decB n)))] [2] [] [Sv (decB n)] [] [Con Tryd.prog 57 [I n, I 10] true (Sv (decB n)) ∧ ((I n : AV) = I n) ∧ ((I 10 : AV) = I 10) ∧ True] (by kernel_rfl) hB ⟨⟨(formatInt_ok n 10 (by omega) rfl), rfl, rfl, trivial⟩, trivial⟩ ?_
  refine ae_then ?_
  refine aw_ret ?_
  refine ae_ret hB (Sv (decB n)) (by kernel_rfl) (.inl rfl) rfl (fun _ => trivial)


def fracT (f : Fraction) : ByteArray := if okFr f = true then (if f.Den = 1 then decB f.Num else decB f.Num ++ ⟨#[47]⟩ ++ decB f.Den) else ⟨#[]⟩

-- impl.FractionText
theorem implFractionText_ok (f : Fraction) : Con Tryd.prog 22 [.agg [I f.Num, I f.Den]] true (Sv (fracT f)) := by
  refine fn_ok (fn := Tryd.f22) (nt := 22) Tryd.func22 rfl rfl rfl rfl (by simp [taggedL, tagged]) fun B hB => ?_
  refine aw_seq ?_
  refine aw_reg [(0, .new 1)] [1] [1] [.ref 1 0] [some (.box [I f.Num, I f.Den])] [] (by kernel_rfl) hB trivial ?_
  refine ae_then ?_
  refine aw_seq ?_
  refine aw_block ?_
  refine aw_seq ?_
  rcases Bool.eq_false_or_eq_true (okFr f) with h1 | h1
  · have fA_ := okFr_iff.1 h1
    refine aw_reg [(1, .call [(true, .agg [I f.Num, I f.Den])] true (Bv true))] [1, 3] [1] [.ref 1 0, Bv false] [some (.box [I f.Num, I f.Den])] [Con Tryd.prog 20 [.agg [I f.Num, I f.Den]] true (Bv true) ∧ ((.agg [I f.Num, I f.Den] : AV) = .agg [I f.Num, I f.Den]) ∧ True] (by kernel_rfl) hB ⟨⟨(con_bool h1 (ValidFraction_ok f)), rfl, trivial⟩, trivial⟩ ?_
    refine ae_then ?_
    refine aw_false rfl ?_
    refine aw_seq ?_
    by_cases h2 : f.Den = 1
    · refine aw_reg [(2, .dec true)] [1, 7] [1] [.ref 1 0, Bv true] [some (.box [I f.Num, I f.Den])] [f.Den = 1] (by kernel_rfl) hB ⟨h2, trivial⟩ ?_
      refine ae_then ?_
      refine aw_true rfl ?_
      refine aw_seq ?_
      refine aw_reg [(2, .call [(true, I f.Num)] true (Sv (decB f.Num)))] [2] [] [Sv (decB f.Num)] [] [Con Tryd.prog 46 [I f.Num] true (Sv (decB f.Num)) ∧ ((I f.Num : AV) = I f.Num) ∧ True] (by kernel_rfl) hB ⟨⟨(implDecimal_ok f.Num (by omega)), rfl, trivial⟩, trivial⟩ ?_
      refine ae_then ?_
      refine aw_ret ?_
      refine ae_ret_block (ae_ret_then ?_)
      refine ae_ret hB (Sv (decB f.Num)) (by kernel_rfl) (.inl (by simp [fracT, *])) rfl (fun _ => trivial)
    · refine aw_reg [(2, .dec false)] [1, 7] [1] [.ref 1 0, Bv false] [some (.box [I f.Num, I f.Den])] [¬ (f.Den = 1)] (by kernel_rfl) hB ⟨h2, trivial⟩ ?_
      refine ae_then ?_
      refine aw_false rfl ?_
      refine aw_skip ?_
      refine ae_block 0 ?_
      refine ae_then ?_
      refine aw_seq ?_
      refine aw_reg [(2, .call [(true, I f.Num)] true (Sv (decB f.Num))), (6, .call [(true, I f.Den)] true (Sv (decB f.Den)))] [2] [] [Sv (((decB f.Num) ++ (⟨#[47]⟩ : ByteArray)) ++ (decB f.Den))] [] [Con Tryd.prog 46 [I f.Num] true (Sv (decB f.Num)) ∧ ((I f.Num : AV) = I f.Num) ∧ True, (decB f.Num).size + (⟨#[47]⟩ : ByteArray).size ≤ 9223372036854775807, Con Tryd.prog 46 [I f.Den] true (Sv (decB f.Den)) ∧ ((I f.Den : AV) = I f.Den) ∧ True, ((decB f.Num) ++ (⟨#[47]⟩ : ByteArray)).size + (decB f.Den).size ≤ 9223372036854775807] (by kernel_rfl) hB ⟨⟨(implDecimal_ok f.Num (by omega)), rfl, trivial⟩, (by (try simp only [ByteArray.size_append]); have h1 := decB_size (n := f.Num) (by omega); have h2 := decB_size (n := f.Den) (by omega); have h3 : (⟨#[47]⟩ : ByteArray).size = 1 := rfl; omega), ⟨(implDecimal_ok f.Den (by omega)), rfl, trivial⟩, (by (try simp only [ByteArray.size_append]); have h1 := decB_size (n := f.Num) (by omega); have h2 := decB_size (n := f.Den) (by omega); have h3 : (⟨#[47]⟩ : ByteArray).size = 1 := rfl; omega), trivial⟩ ?_
      refine ae_then ?_
      refine aw_ret ?_
      refine ae_ret hB (Sv (((decB f.Num) ++ (⟨#[47]⟩ : ByteArray)) ++ (decB f.Den))) (by kernel_rfl) (.inl (by simp [fracT, *])) rfl (fun _ => trivial)
  · refine aw_reg [(1, .call [(true, .agg [I f.Num, I f.Den])] true (Bv false))] [1, 3] [1] [.ref 1 0, Bv true] [some (.box [I f.Num, I f.Den])] [Con Tryd.prog 20 [.agg [I f.Num, I f.Den]] true (Bv false) ∧ ((.agg [I f.Num, I f.Den] : AV) = .agg [I f.Num, I f.Den]) ∧ True] (by kernel_rfl) hB ⟨⟨(con_bool h1 (ValidFraction_ok f)), rfl, trivial⟩, trivial⟩ ?_
    refine ae_then ?_
    refine aw_true rfl ?_
    refine aw_seq ?_
    refine aw_reg [] [2] [] [Sv (⟨#[]⟩ : ByteArray)] [] [] (by kernel_rfl) hB trivial ?_
    refine ae_then ?_
    refine aw_ret ?_
    refine ae_ret_block (ae_ret_then ?_)
    refine ae_ret hB (Sv (⟨#[]⟩ : ByteArray)) (by kernel_rfl) (.inl (by simp [fracT, *])) rfl (fun _ => trivial)


-- spec.l01Dec
theorem l01Dec_ok (n : Int) (hn : -9223372036854775808 ≤ n ∧ n ≤ 9223372036854775807) : Con Tryd.prog 58 [I n] true (Sv (decB n)) := by
  have hdl := digs_len 19 n.natAbs (by omega)
  refine fn_ok (fn := Tryd.f58) (nt := 34) Tryd.func58 rfl rfl rfl rfl (by simp [taggedL, tagged]) fun B hB => ?_
  refine aw_seq ?_
  refine aw_reg [] [0] [] [I n] [] [] (by kernel_rfl) hB trivial ?_
  refine ae_then ?_
  refine aw_seq ?_
  refine aw_reg [(0, .new 6)] [0, 3] [6] [I n, .arr 6] [some (.arr 1 0 (litF [] 1))] [] (by kernel_rfl) hB trivial ?_
  refine ae_then ?_
  refine aw_seq ?_
  refine aw_seq ?_
  refine aw_reg [] [0, 3, 4] [6] [I n, .arr 6, I n] [some (.arr 1 0 (litF [] 1))] [] (by kernel_rfl) hB trivial ?_
  refine ae_then ?_
  refine aw_block ?_
  refine aw_weak hB [] (T := [(0, I n), (3, .arr 6), (4, I n)]) (O := [(6, .arr 1 (([] : List Int).length) (fU8 ([] : List Int)))]) rfl (⟨.inl rfl, .inl rfl, .inl rfl, trivial⟩) (⟨.inr ⟨rfl, (by first | rfl | (simp; done) | (simp; omega) | omega), fun i hi => absurd hi (Nat.not_lt_zero _)⟩, trivial⟩) ?_
  refine aw_loop (fun gn gσ => ∃ (out : List Int) (k : Int), gn = k.natAbs ∧ (digs k.natAbs ++ out = digs n.natAbs) ∧ (k.natAbs ≤ n.natAbs) ∧ gσ = mkS [(0, I n), (3, .arr 6), (4, I k)] [(6, .arr 1 out.length (fU8 out))]) (n.natAbs) ⟨([] : List Int), n, rfl, (by simp), (by omega), rfl⟩ (fun gn gσ hI => ?_)
  obtain ⟨out, k, rfl, hd1, hd2, rfl⟩ := hI
  refine aw_seq ?_
  refine aw_seq ?_
  by_cases h1 : k = 0
  · rw [h1] at hd1
    have hfin : out = digs n.natAbs := by simpa [digs_zero] using hd1
    subst hfin
    refine aw_reg [(1, .dec false)] [0, 3, 4, 9] [6] [I n, .arr 6, I k, Bv false] [some (.arr 1 ((digs n.natAbs).length) (fU8 (digs n.natAbs)))] [¬ (k ≠ 0)] (by kernel_rfl) hB ⟨(fun hq => hq h1), trivial⟩ ?_
    refine ae_then ?_
    refine aw_false rfl ?_
    refine aw_exit ?_
    refine ae_exit_then ?_
    refine ae_exit_then ?_
    refine ae_exit_same ?_
    refine ae_then ?_
    refine aw_seq ?_
    refine aw_seq ?_
    by_cases h2 : (((digs n.natAbs).length) : Int) = 0
    · have hn0 : n = 0 := by have := digs_nil (u := n.natAbs) (by omega); omega
      refine aw_reg [(2, .dec true)] [0, 3, 26] [6] [I n, .arr 6, Bv true] [some (.arr 1 ((digs n.natAbs).length) (fU8 (digs n.natAbs)))] [(((digs n.natAbs).length) : Int) = 0] (by kernel_rfl) hB ⟨h2, trivial⟩ ?_
      refine ae_then ?_
      refine aw_true rfl ?_
      refine aw_seq ?_
      refine aw_reg [] [2] [] [Sv (⟨#[48]⟩ : ByteArray)] [] [] (by kernel_rfl) hB trivial ?_
      refine ae_then ?_
      refine aw_ret ?_
      refine ae_ret_then ?_
      refine ae_ret hB (Sv (⟨#[48]⟩ : ByteArray)) (by kernel_rfl) (.inl (by first | (rw [hn0, decB_zero]; done) | (rw [decB_neg (by omega)]; done) | (rw [decB_pos (by omega)]; done))) rfl (fun _ => trivial)
    · have hn0 : n ≠ 0 := by rintro rfl; exact h2 (by simp [digs_zero])
      refine aw_reg [(2, .dec false)] [0, 3, 26] [6] [I n, .arr 6, Bv false] [some (.arr 1 ((digs n.natAbs).length) (fU8 (digs n.natAbs)))] [¬ ((((digs n.natAbs).length) : Int) = 0)] (by kernel_rfl) hB ⟨h2, trivial⟩ ?_
      refine ae_then ?_
      refine aw_false rfl ?_
      refine aw_skip ?_
      refine ae_then ?_
      refine aw_seq ?_
      refine aw_seq ?_
      by_cases h3 : n < 0
      · refine aw_reg [(1, .dec true)] [3, 28] [6] [.arr 6, Bv true] [some (.arr 1 ((digs n.natAbs).length) (fU8 (digs n.natAbs)))] [n < 0] (by kernel_rfl) hB ⟨h3, trivial⟩ ?_
        refine ae_then ?_
        refine aw_true rfl ?_
        refine aw_seq ?_
        refine aw_reg [(1, .as (Sv (strB (digs n.natAbs))))] [2] [] [Sv ((⟨#[45]⟩ : ByteArray) ++ (strB (digs n.natAbs)))] [] [(strB (digs n.natAbs)).size = (digs n.natAbs).length ∧ ∀ i, i < (digs n.natAbs).length → (fU8 (digs n.natAbs)) i = byteF (strB (digs n.natAbs)) i, (⟨#[45]⟩ : ByteArray).size + (strB (digs n.natAbs)).size ≤ 9223372036854775807] (by kernel_rfl) hB ⟨(strB_ok (digs_bd _)), (by have hq := strB_size (digs n.natAbs); have hq2 : (⟨#[45]⟩ : ByteArray).size = 1 := rfl; omega), trivial⟩ ?_
        refine ae_then ?_
        refine aw_ret ?_
        refine ae_ret_then ?_
        refine ae_ret hB (Sv ((⟨#[45]⟩ : ByteArray) ++ (strB (digs n.natAbs)))) (by kernel_rfl) (.inl (by first | (rw [hn0, decB_zero]; done) | (rw [decB_neg (by omega)]; done) | (rw [decB_pos (by omega)]; done))) rfl (fun _ => trivial)
      · refine aw_reg [(1, .dec false)] [3, 28] [6] [.arr 6, Bv false] [some (.arr 1 ((digs n.natAbs).length) (fU8 (digs n.natAbs)))] [¬ (n < 0)] (by kernel_rfl) hB ⟨h3, trivial⟩ ?_
        refine ae_then ?_
        refine aw_false rfl ?_
        refine aw_skip ?_
        refine ae_then ?_
        refine aw_seq ?_
        refine aw_reg [(1, .as (Sv (strB (digs n.natAbs))))] [2] [] [Sv (strB (digs n.natAbs))] [] [(strB (digs n.natAbs)).size = (digs n.natAbs).length ∧ ∀ i, i < (digs n.natAbs).length → (fU8 (digs n.natAbs)) i = byteF (strB (digs n.natAbs)) i] (by kernel_rfl) hB ⟨(strB_ok (digs_bd _)), trivial⟩ ?_
        refine ae_then ?_
        refine aw_ret ?_
        refine ae_ret hB (Sv (strB (digs n.natAbs))) (by kernel_rfl) (.inl (by first | (rw [hn0, decB_zero]; done) | (rw [decB_neg (by omega)]; done) | (rw [decB_pos (by omega)]; done))) rfl (fun _ => trivial)
  · have hta := tdiv_abs k
    have htb := tmod_abs k
    have hll := congrArg List.length hd1
    simp only [List.length_append] at hll
    have hst : digs (Int.tdiv k 10).natAbs ++ ([48 + ((k.natAbs % 10 : Nat) : Int)] ++ out) = digs n.natAbs := by rw [← hd1, digs_pos (u := k.natAbs) (by omega), tdiv_abs, List.append_assoc]
    refine aw_reg [(1, .dec true)] [0, 3, 4, 9] [6] [I n, .arr 6, I k, Bv true] [some (.arr 1 out.length (fU8 out))] [k ≠ 0] (by kernel_rfl) hB ⟨h1, trivial⟩ ?_
    refine ae_then ?_
    refine aw_true rfl ?_
    refine aw_skip ?_
    refine ae_then ?_
    refine aw_seq ?_
    refine aw_block ?_
    refine aw_seq ?_
    refine aw_reg [] [0, 3, 4, 5] [6] [I n, .arr 6, I k, I (Int.tmod k 10)] [some (.arr 1 out.length (fU8 out))] [(10 : Int) ≠ 0] (by kernel_rfl) hB ⟨(by omega), trivial⟩ ?_
    refine ae_then ?_
    refine aw_seq ?_
    refine aw_seq ?_
    by_cases h4 : (Int.tmod k 10) < 0
    · refine aw_reg [(1, .dec true)] [0, 3, 4, 5, 15] [6] [I n, .arr 6, I k, I (Int.tmod k 10), Bv true] [some (.arr 1 out.length (fU8 out))] [(Int.tmod k 10) < 0] (by kernel_rfl) hB ⟨h4, trivial⟩ ?_
      refine ae_then ?_
      refine aw_true rfl ?_
      refine aw_reg [] [0, 3, 4, 5] [6] [I n, .arr 6, I k, I (-(Int.tmod k 10))] [some (.arr 1 out.length (fU8 out))] [inR .i64 (-(Int.tmod k 10))] (by kernel_rfl) hB ⟨(inR_i64 (by omega) (by omega)), trivial⟩ ?_
      refine ae_then ?_
      refine aw_reg [(3, .new 21), (5, .new 23)] [0, 3, 4] [23] [I n, .arr 23, I k] [some (.arr 1 (1 + out.length) (catF 1 (litF [.val (.int .u8 (48 + (-(Int.tmod k 10))))] 1) (fU8 out)))] [inR .i64 (48 + (-(Int.tmod k 10))), inR .u8 (48 + (-(Int.tmod k 10))), (1 + out.length) * 1 ≤ 140737488355328] (by kernel_rfl) hB ⟨(inR_i64 (by omega) (by omega)), (inR_u8 (by omega) (by omega)), (by omega), trivial⟩ ?_
      refine ae_block 1 ?_
      refine ae_then ?_
      refine aw_reg [] [0, 3, 4] [23] [I n, .arr 23, I (Int.tdiv k 10)] [some (.arr 1 (1 + out.length) (catF 1 (litF [.val (.int .u8 (48 + (-(Int.tmod k 10))))] 1) (fU8 out)))] [(10 : Int) ≠ 0 ∧ inR .i64 (Int.tdiv k 10)] (by kernel_rfl) hB ⟨⟨by omega, (inR_i64 (by omega) (by omega))⟩, trivial⟩ ?_
      refine ae_weak hB [(6, 23)] (T := [(0, I n), (3, .arr 6), (4, I (Int.tdiv k 10))]) (O := [(6, .arr 1 (([(48 + (-(Int.tmod k 10)))] ++ out).length) (fU8 ([(48 + (-(Int.tmod k 10)))] ++ out)))]) rfl (⟨.inl rfl, .inl rfl, .inl rfl, trivial⟩) (⟨.inr ⟨rfl, (by first | rfl | (simp; done) | (simp; omega) | omega), fun i hi => .inl (cat_one (enc := cU8) rfl i hi)⟩, trivial⟩) (ae_again _ (by omega) ⟨([(48 + (-(Int.tmod k 10)))] ++ out), (Int.tdiv k 10), rfl, (by first | (rw [show 48 + Int.tmod k 10 = 48 + ((k.natAbs % 10 : Nat) : Int) from by omega]; exact hst) | (rw [show 48 + -(Int.tmod k 10) = 48 + ((k.natAbs % 10 : Nat) : Int) from by omega]; exact hst)), (by omega), rfl⟩)
    · refine aw_reg [(1, .dec false)] [0, 3, 4, 5, 15] [6] [I n, .arr 6, I k, I (Int.tmod k 10), Bv false] [some (.arr 1 out.length (fU8 out))] [¬ ((Int.tmod k 10) < 0)] (by kernel_rfl) hB ⟨h4, trivial⟩ ?_
      refine ae_then ?_
      refine aw_false rfl ?_
      refine aw_skip ?_
      refine ae_then ?_
      refine aw_reg [(3, .new 21), (5, .new 23)] [0, 3, 4] [23] [I n, .arr 23, I k] [some (.arr 1 (1 + out.length) (catF 1 (litF [.val (.int .u8 (48 + (Int.tmod k 10)))] 1) (fU8 out)))] [inR .i64 (48 + (Int.tmod k 10)), inR .u8 (48 + (Int.tmod k 10)), (1 + out.length) * 1 ≤ 140737488355328] (by kernel_rfl) hB ⟨(inR_i64 (by omega) (by omega)), (inR_u8 (by omega) (by omega)), (by omega), trivial⟩ ?_
      refine ae_block 1 ?_
      refine ae_then ?_
      refine aw_reg [] [0, 3, 4] [23] [I n, .arr 23, I (Int.tdiv k 10)] [some (.arr 1 (1 + out.length) (catF 1 (litF [.val (.int .u8 (48 + (Int.tmod k 10)))] 1) (fU8 out)))] [(10 : Int) ≠ 0 ∧ inR .i64 (Int.tdiv k 10)] (by kernel_rfl) hB ⟨⟨by omega, (inR_i64 (by omega) (by omega))⟩, trivial⟩ ?_
      refine ae_weak hB [(6, 23)] (T := [(0, I n), (3, .arr 6), (4, I (Int.tdiv k 10))]) (O := [(6, .arr 1 (([(48 + (Int.tmod k 10))] ++ out).length) (fU8 ([(48 + (Int.tmod k 10))] ++ out)))]) rfl (⟨.inl rfl, .inl rfl, .inl rfl, trivial⟩) (⟨.inr ⟨rfl, (by first | rfl | (simp; done) | (simp; omega) | omega), fun i hi => .inl (cat_one (enc := cU8) rfl i hi)⟩, trivial⟩) (ae_again _ (by omega) ⟨([(48 + (Int.tmod k 10))] ++ out), (Int.tdiv k 10), rfl, (by first | (rw [show 48 + Int.tmod k 10 = 48 + ((k.natAbs % 10 : Nat) : Int) from by omega]; exact hst) | (rw [show 48 + -(Int.tmod k 10) = 48 + ((k.natAbs % 10 : Nat) : Int) from by omega]; exact hst)), (by omega), rfl⟩)


-- spec.l22Text
theorem l22Text_ok (f : Fraction) (hf : okFr f = true) : Con Tryd.prog 47 [.agg [I f.Num, I f.Den]] true (Sv (fracT f)) := by
  have fA_ := okFr_iff.1 hf
  refine fn_ok (fn := Tryd.f47) (nt := 17) Tryd.func47 rfl rfl rfl rfl (by simp [taggedL, tagged]) fun B hB => ?_
  refine aw_seq ?_
  refine aw_reg [(0, .new 1)] [1] [1] [.ref 1 0] [some (.box [I f.Num, I f.Den])] [] (by kernel_rfl) hB trivial ?_
  refine ae_then ?_
  refine aw_seq ?_
  refine aw_seq ?_
  by_cases h1 : f.Den = 1
  · refine aw_reg [(2, .dec true)] [1, 5] [1] [.ref 1 0, Bv true] [some (.box [I f.Num, I f.Den])] [f.Den = 1] (by kernel_rfl) hB ⟨h1, trivial⟩ ?_
    refine ae_then ?_
    refine aw_true rfl ?_
    refine aw_seq ?_
    refine aw_reg [(2, .call [(true, I f.Num)] true (Sv (decB f.Num)))] [2] [] [Sv (decB f.Num)] [] [Con Tryd.prog 58 [I f.Num] true (Sv (decB f.Num)) ∧ ((I f.Num : AV) = I f.Num) ∧ True] (by kernel_rfl) hB ⟨⟨(l01Dec_ok f.Num (by omega)), rfl, trivial⟩, trivial⟩ ?_
    refine ae_then ?_
    refine aw_ret ?_
    refine ae_ret_then ?_
    refine ae_ret hB (Sv (decB f.Num)) (by kernel_rfl) (.inl (by simp [fracT, *])) rfl (fun _ => trivial)
  · refine aw_reg [(2, .dec false)] [1, 5] [1] [.ref 1 0, Bv false] [some (.box [I f.Num, I f.Den])] [¬ (f.Den = 1)] (by kernel_rfl) hB ⟨h1, trivial⟩ ?_
    refine ae_then ?_
    refine aw_false rfl ?_
    refine aw_skip ?_
    refine ae_then ?_
    refine aw_seq ?_
    refine aw_reg [(2, .call [(true, I f.Num)] true (Sv (decB f.Num))), (6, .call [(true, I f.Den)] true (Sv (decB f.Den)))] [2] [] [Sv (((decB f.Num) ++ (⟨#[47]⟩ : ByteArray)) ++ (decB f.Den))] [] [Con Tryd.prog 58 [I f.Num] true (Sv (decB f.Num)) ∧ ((I f.Num : AV) = I f.Num) ∧ True, (decB f.Num).size + (⟨#[47]⟩ : ByteArray).size ≤ 9223372036854775807, Con Tryd.prog 58 [I f.Den] true (Sv (decB f.Den)) ∧ ((I f.Den : AV) = I f.Den) ∧ True, ((decB f.Num) ++ (⟨#[47]⟩ : ByteArray)).size + (decB f.Den).size ≤ 9223372036854775807] (by kernel_rfl) hB ⟨⟨(l01Dec_ok f.Num (by omega)), rfl, trivial⟩, (by (try simp only [ByteArray.size_append]); have h1 := decB_size (n := f.Num) (by omega); have h2 := decB_size (n := f.Den) (by omega); have h3 : (⟨#[47]⟩ : ByteArray).size = 1 := rfl; omega), ⟨(l01Dec_ok f.Den (by omega)), rfl, trivial⟩, (by (try simp only [ByteArray.size_append]); have h1 := decB_size (n := f.Num) (by omega); have h2 := decB_size (n := f.Den) (by omega); have h3 : (⟨#[47]⟩ : ByteArray).size = 1 := rfl; omega), trivial⟩ ?_
    refine ae_then ?_
    refine aw_ret ?_
    refine ae_ret hB (Sv (((decB f.Num) ++ (⟨#[47]⟩ : ByteArray)) ++ (decB f.Den))) (by kernel_rfl) (.inl (by simp [fracT, *])) rfl (fun _ => trivial)


-- spec.FractionText
theorem specFractionText_ok (f : Fraction) : Con Tryd.prog 23 [.agg [I f.Num, I f.Den]] true (Sv (fracT f)) := by
  refine fn_ok (fn := Tryd.f23) (nt := 8) Tryd.func23 rfl rfl rfl rfl (by simp [taggedL, tagged]) fun B hB => ?_
  refine aw_seq ?_
  refine aw_reg [(0, .new 1)] [1] [1] [.ref 1 0] [some (.box [I f.Num, I f.Den])] [] (by kernel_rfl) hB trivial ?_
  refine ae_then ?_
  refine aw_seq ?_
  refine aw_seq ?_
  rcases Bool.eq_false_or_eq_true (okFr f) with h1 | h1
  · have fA_ := okFr_iff.1 h1
    refine aw_reg [(1, .call [(true, .agg [I f.Num, I f.Den])] true (Bv true))] [1, 5] [1] [.ref 1 0, Bv false] [some (.box [I f.Num, I f.Den])] [Con Tryd.prog 31 [.agg [I f.Num, I f.Den]] true (Bv true) ∧ ((.agg [I f.Num, I f.Den] : AV) = .agg [I f.Num, I f.Den]) ∧ True] (by kernel_rfl) hB ⟨⟨(con_bool h1 (l22Ok_ok f)), rfl, trivial⟩, trivial⟩ ?_
    refine ae_then ?_
    refine aw_false rfl ?_
    refine aw_skip ?_
    refine ae_then ?_
    refine aw_seq ?_
    refine aw_reg [(1, .call [(true, .agg [I f.Num, I f.Den])] true (Sv (fracT f)))] [2] [] [Sv (fracT f)] [] [Con Tryd.prog 47 [.agg [I f.Num, I f.Den]] true (Sv (fracT f)) ∧ ((.agg [I f.Num, I f.Den] : AV) = .agg [I f.Num, I f.Den]) ∧ True] (by kernel_rfl) hB ⟨⟨(l22Text_ok f (by assumption)), rfl, trivial⟩, trivial⟩ ?_
    refine ae_then ?_
    refine aw_ret ?_
    refine ae_ret hB (Sv (fracT f)) (by kernel_rfl) (.inl rfl) rfl (fun _ => trivial)
  · refine aw_reg [(1, .call [(true, .agg [I f.Num, I f.Den])] true (Bv false))] [1, 5] [1] [.ref 1 0, Bv true] [some (.box [I f.Num, I f.Den])] [Con Tryd.prog 31 [.agg [I f.Num, I f.Den]] true (Bv false) ∧ ((.agg [I f.Num, I f.Den] : AV) = .agg [I f.Num, I f.Den]) ∧ True] (by kernel_rfl) hB ⟨⟨(con_bool h1 (l22Ok_ok f)), rfl, trivial⟩, trivial⟩ ?_
    refine ae_then ?_
    refine aw_true rfl ?_
    refine aw_seq ?_
    refine aw_reg [] [2] [] [Sv (⟨#[]⟩ : ByteArray)] [] [] (by kernel_rfl) hB trivial ?_
    refine ae_then ?_
    refine aw_ret ?_
    refine ae_ret_then ?_
    refine ae_ret hB (Sv (⟨#[]⟩ : ByteArray)) (by kernel_rfl) (.inl (by simp [fracT, *])) rfl (fun _ => trivial)


-- laws.FnFractions
theorem fnFractions_con (code : List Int) (ok_code : ∀ y ∈ code, inR .u8 y) : Con Tryd.prog 3 [slU8 false code] true (Bv true) := by
  refine fn_ok (fn := Tryd.f3) (nt := 240) Tryd.func3 rfl rfl rfl rfl (by simp [taggedL, tagged, tagU8]) fun B hB => ?_
  refine aw_lens (x := slU8 false code) 0 rfl (fun len_code => ?_)
  simp [LenOK, LenL, cU8, fU8, slU8] at len_code
  refine aw_seq ?_
  refine aw_reg [] [0] [] [slU8 false code] [] [] (by kernel_rfl) hB trivial ?_
  refine ae_then ?_
  refine aw_seq ?_
  refine aw_seq ?_
  rcases Bool.eq_false_or_eq_true (decide (4096 < (code.length : Int))) with h1 | h1
  · refine aw_reg [(1, .call [(true, slU8 false code)] true (Bv true))] [0, 39] [] [slU8 false code, Bv true] [] [Con Tryd.prog 5 [slU8 false code] true (Bv true) ∧ ((slU8 false code : AV) = slU8 false code) ∧ True] (by kernel_rfl) hB ⟨⟨(con_bool h1 (f6big_ok code)), rfl, trivial⟩, trivial⟩ ?_
    refine ae_then ?_
    refine aw_true rfl ?_
    refine aw_seq ?_
    refine aw_reg [] [2] [] [Bv true] [] [] (by kernel_rfl) hB trivial ?_
    refine ae_then ?_
    refine aw_ret ?_
    refine ae_ret_then ?_
    refine ae_ret hB (Bv true) (by kernel_rfl) (.inl rfl) rfl (fun _ => trivial)
  · have hc : (∀ j, j < code.length → 0 ≤ at_ code j ∧ at_ code j ≤ 255) ∧ code.length ≤ 4611686018427387904 := ⟨fun j hj => ok_code _ (at_mem hj), by first | omega | (simp at h1; omega)⟩
    refine aw_reg [(1, .call [(true, slU8 false code)] true (Bv false))] [0, 39] [] [slU8 false code, Bv false] [] [Con Tryd.prog 5 [slU8 false code] true (Bv false) ∧ ((slU8 false code : AV) = slU8 false code) ∧ True] (by kernel_rfl) hB ⟨⟨(con_bool h1 (f6big_ok code)), rfl, trivial⟩, trivial⟩ ?_
    refine ae_then ?_
    refine aw_false rfl ?_
    refine aw_skip ?_
    refine ae_then ?_
    refine aw_seq ?_
    obtain ⟨v_1, w_1, hc1⟩ := DrawAddFractions_ok code (by assumption)
    refine aw_reg [(1, .call [(true, slU8 false code)] true (.tup [.agg [I v_1.Num, I v_1.Den], .agg [I w_1.Num, I w_1.Den]])), (5, .new 3), (6, .new 4)] [0, 3, 4] [3, 4] [slU8 false code, .ref 3 0, .ref 4 0] [some (.box [I v_1.Num, I v_1.Den]), some (.box [I w_1.Num, I w_1.Den])] [Con Tryd.prog 6 [slU8 false code] true (.tup [.agg [I v_1.Num, I v_1.Den], .agg [I w_1.Num, I w_1.Den]]) ∧ ((slU8 false code : AV) = slU8 false code) ∧ True] (by kernel_rfl) hB ⟨⟨hc1, rfl, trivial⟩, trivial⟩ ?_
    refine ae_then ?_
    refine aw_seq ?_
    refine aw_reg [(2, .call [(true, .agg [I v_1.Num, I v_1.Den]), (true, .agg [I w_1.Num, I w_1.Den])] true (.tup [.agg [I (((addR v_1 w_1).1).Num), I (((addR v_1 w_1).1).Den)], I ((addR v_1 w_1).2)])), (6, .new 5)] [0, 3, 4, 5, 6] [3, 4, 5] [slU8 false code, .ref 3 0, .ref 4 0, .ref 5 0, I ((addR v_1 w_1).2)] [some (.box [I v_1.Num, I v_1.Den]), some (.box [I w_1.Num, I w_1.Den]), some (.box [I (((addR v_1 w_1).1).Num), I (((addR v_1 w_1).1).Den)])] [Con Tryd.prog 7 [.agg [I v_1.Num, I v_1.Den], .agg [I w_1.Num, I w_1.Den]] true (.tup [.agg [I (((addR v_1 w_1).1).Num), I (((addR v_1 w_1).1).Den)], I ((addR v_1 w_1).2)]) ∧ ((.agg [I v_1.Num, I v_1.Den] : AV) = .agg [I v_1.Num, I v_1.Den]) ∧ ((.agg [I w_1.Num, I w_1.Den] : AV) = .agg [I w_1.Num, I w_1.Den]) ∧ True] (by kernel_rfl) hB ⟨⟨(implAddFractions_ok v_1 w_1), rfl, rfl, trivial⟩, trivial⟩ ?_
    refine ae_then ?_
    refine aw_seq ?_
    refine aw_reg [(2, .call [(true, .agg [I v_1.Num, I v_1.Den]), (true, .agg [I w_1.Num, I w_1.Den])] true (.tup [.agg [I (((addR v_1 w_1).1).Num), I (((addR v_1 w_1).1).Den)], I ((addR v_1 w_1).2)])), (6, .new 7)] [0, 3, 4, 5, 6, 7, 8] [3, 4, 5, 7] [slU8 false code, .ref 3 0, .ref 4 0, .ref 5 0, I ((addR v_1 w_1).2), .ref 7 0, I ((addR v_1 w_1).2)] [some (.box [I v_1.Num, I v_1.Den]), some (.box [I w_1.Num, I w_1.Den]), some (.box [I (((addR v_1 w_1).1).Num), I (((addR v_1 w_1).1).Den)]), some (.box [I (((addR v_1 w_1).1).Num), I (((addR v_1 w_1).1).Den)])] [Con Tryd.prog 8 [.agg [I v_1.Num, I v_1.Den], .agg [I w_1.Num, I w_1.Den]] true (.tup [.agg [I (((addR v_1 w_1).1).Num), I (((addR v_1 w_1).1).Den)], I ((addR v_1 w_1).2)]) ∧ ((.agg [I v_1.Num, I v_1.Den] : AV) = .agg [I v_1.Num, I v_1.Den]) ∧ ((.agg [I w_1.Num, I w_1.Den] : AV) = .agg [I w_1.Num, I w_1.Den]) ∧ True] (by kernel_rfl) hB ⟨⟨(specAddFractions_ok v_1 w_1), rfl, rfl, trivial⟩, trivial⟩ ?_
    refine ae_then ?_
    refine aw_seq ?_
    refine aw_reg [(2, .call [(true, .agg [I v_1.Num, I v_1.Den]), (true, .agg [I w_1.Num, I w_1.Den])] true (.tup [.agg [I (((timesR v_1 w_1).1).Num), I (((timesR v_1 w_1).1).Den)], I ((timesR v_1 w_1).2)])), (6, .new 9)] [0, 3, 4, 5, 6, 7, 8, 9, 10] [3, 4, 5, 7, 9] [slU8 false code, .ref 3 0, .ref 4 0, .ref 5 0, I ((addR v_1 w_1).2), .ref 7 0, I ((addR v_1 w_1).2), .ref 9 0, I ((timesR v_1 w_1).2)] [some (.box [I v_1.Num, I v_1.Den]), some (.box [I w_1.Num, I w_1.Den]), some (.box [I (((addR v_1 w_1).1).Num), I (((addR v_1 w_1).1).Den)]), some (.box [I (((addR v_1 w_1).1).Num), I (((addR v_1 w_1).1).Den)]), some (.box [I (((timesR v_1 w_1).1).Num), I (((timesR v_1 w_1).1).Den)])] [Con Tryd.prog 9 [.agg [I v_1.Num, I v_1.Den], .agg [I w_1.Num, I w_1.Den]] true (.tup [.agg [I (((timesR v_1 w_1).1).Num), I (((timesR v_1 w_1).1).Den)], I ((timesR v_1 w_1).2)]) ∧ ((.agg [I v_1.Num, I v_1.Den] : AV) = .agg [I v_1.Num, I v_1.Den]) ∧ ((.agg [I w_1.Num, I w_1.Den] : AV) = .agg [I w_1.Num, I w_1.Den]) ∧ True] (by kernel_rfl) hB ⟨⟨(implTimesFractions_ok v_1 w_1), rfl, rfl, trivial⟩, trivial⟩ ?_
    refine ae_then ?_
    refine aw_seq ?_
    refine aw_reg [(2, .call [(true, .agg [I v_1.Num, I v_1.Den]), (true, .agg [I w_1.Num, I w_1.Den])] true (.tup [.agg [I (((timesR v_1 w_1).1).Num), I (((timesR v_1 w_1).1).Den)], I ((timesR v_1 w_1).2)])), (6, .new 11)] [0, 3, 4, 5, 6, 7, 8, 9, 10, 11, 12] [3, 4, 5, 7, 9, 11] [slU8 false code, .ref 3 0, .ref 4 0, .ref 5 0, I ((addR v_1 w_1).2), .ref 7 0, I ((addR v_1 w_1).2), .ref 9 0, I ((timesR v_1 w_1).2), .ref 11 0, I ((timesR v_1 w_1).2)] [some (.box [I v_1.Num, I v_1.Den]), some (.box [I w_1.Num, I w_1.Den]), some (.box [I (((addR v_1 w_1).1).Num), I (((addR v_1 w_1).1).Den)]), some (.box [I (((addR v_1 w_1).1).Num), I (((addR v_1 w_1).1).Den)]), some (.box [I (((timesR v_1 w_1).1).Num), I (((timesR v_1 w_1).1).Den)]), some (.box [I (((timesR v_1 w_1).1).Num), I (((timesR v_1 w_1).1).Den)])] [Con Tryd.prog 10 [.agg [I v_1.Num, I v_1.Den], .agg [I w_1.Num, I w_1.Den]] true (.tup [.agg [I (((timesR v_1 w_1).1).Num), I (((timesR v_1 w_1).1).Den)], I ((timesR v_1 w_1).2)]) ∧ ((.agg [I v_1.Num, I v_1.Den] : AV) = .agg [I v_1.Num, I v_1.Den]) ∧ ((.agg [I w_1.Num, I w_1.Den] : AV) = .agg [I w_1.Num, I w_1.Den]) ∧ True] (by kernel_rfl) hB ⟨⟨(specTimesFractions_ok v_1 w_1), rfl, rfl, trivial⟩, trivial⟩ ?_
    refine ae_then ?_
    refine aw_seq ?_
    obtain ⟨v_2, hc2⟩ := DrawRootFraction_ok code (by assumption)
    refine aw_reg [(1, .call [(true, slU8 false code)] true (.agg [I v_2.Num, I v_2.Den])), (2, .new 13)] [0, 3, 4, 5, 6, 7, 8, 9, 10, 11, 12, 13] [3, 4, 5, 7, 9, 11, 13] [slU8 false code, .ref 3 0, .ref 4 0, .ref 5 0, I ((addR v_1 w_1).2), .ref 7 0, I ((addR v_1 w_1).2), .ref 9 0, I ((timesR v_1 w_1).2), .ref 11 0, I ((timesR v_1 w_1).2), .ref 13 0] [some (.box [I v_1.Num, I v_1.Den]), some (.box [I w_1.Num, I w_1.Den]), some (.box [I (((addR v_1 w_1).1).Num), I (((addR v_1 w_1).1).Den)]), some (.box [I (((addR v_1 w_1).1).Num), I (((addR v_1 w_1).1).Den)]), some (.box [I (((timesR v_1 w_1).1).Num), I (((timesR v_1 w_1).1).Den)]), some (.box [I (((timesR v_1 w_1).1).Num), I (((timesR v_1 w_1).1).Den)]), some (.box [I v_2.Num, I v_2.Den])] [Con Tryd.prog 11 [slU8 false code] true (.agg [I v_2.Num, I v_2.Den]) ∧ ((slU8 false code : AV) = slU8 false code) ∧ True] (by kernel_rfl) hB ⟨⟨hc2, rfl, trivial⟩, trivial⟩ ?_
    refine ae_then ?_
    refine aw_seq ?_
    refine aw_reg [(1, .call [(true, .agg [I v_2.Num, I v_2.Den])] true (.tup [.agg [I (((rootR v_2).1).Num), I (((rootR v_2).1).Den)], I ((rootR v_2).2)])), (5, .new 14)] [0, 3, 4, 5, 6, 7, 8, 9, 10, 11, 12, 13, 14, 15] [3, 4, 5, 7, 9, 11, 13, 14] [slU8 false code, .ref 3 0, .ref 4 0, .ref 5 0, I ((addR v_1 w_1).2), .ref 7 0, I ((addR v_1 w_1).2), .ref 9 0, I ((timesR v_1 w_1).2), .ref 11 0, I ((timesR v_1 w_1).2), .ref 13 0, .ref 14 0, I ((rootR v_2).2)] [some (.box [I v_1.Num, I v_1.Den]), some (.box [I w_1.Num, I w_1.Den]), some (.box [I (((addR v_1 w_1).1).Num), I (((addR v_1 w_1).1).Den)]), some (.box [I (((addR v_1 w_1).1).Num), I (((addR v_1 w_1).1).Den)]), some (.box [I (((timesR v_1 w_1).1).Num), I (((timesR v_1 w_1).1).Den)]), some (.box [I (((timesR v_1 w_1).1).Num), I (((timesR v_1 w_1).1).Den)]), some (.box [I v_2.Num, I v_2.Den]), some (.box [I (((rootR v_2).1).Num), I (((rootR v_2).1).Den)])] [Con Tryd.prog 12 [.agg [I v_2.Num, I v_2.Den]] true (.tup [.agg [I (((rootR v_2).1).Num), I (((rootR v_2).1).Den)], I ((rootR v_2).2)]) ∧ ((.agg [I v_2.Num, I v_2.Den] : AV) = .agg [I v_2.Num, I v_2.Den]) ∧ True] (by kernel_rfl) hB ⟨⟨(implRootFraction_ok v_2), rfl, trivial⟩, trivial⟩ ?_
    refine ae_then ?_
    refine aw_seq ?_
    refine aw_reg [(1, .call [(true, .agg [I v_2.Num, I v_2.Den])] true (.tup [.agg [I (((rootR v_2).1).Num), I (((rootR v_2).1).Den)], I ((rootR v_2).2)])), (5, .new 16)] [0, 3, 4, 5, 6, 7, 8, 9, 10, 11, 12, 13, 14, 15, 16, 17] [3, 4, 5, 7, 9, 11, 13, 14, 16] [slU8 false code, .ref 3 0, .ref 4 0, .ref 5 0, I ((addR v_1 w_1).2), .ref 7 0, I ((addR v_1 w_1).2), .ref 9 0, I ((timesR v_1 w_1).2), .ref 11 0, I ((timesR v_1 w_1).2), .ref 13 0, .ref 14 0, I ((rootR v_2).2), .ref 16 0, I ((rootR v_2).2)] [some (.box [I v_1.Num, I v_1.Den]), some (.box [I w_1.Num, I w_1.Den]), some (.box [I (((addR v_1 w_1).1).Num), I (((addR v_1 w_1).1).Den)]), some (.box [I (((addR v_1 w_1).1).Num), I (((addR v_1 w_1).1).Den)]), some (.box [I (((timesR v_1 w_1).1).Num), I (((timesR v_1 w_1).1).Den)]), some (.box [I (((timesR v_1 w_1).1).Num), I (((timesR v_1 w_1).1).Den)]), some (.box [I v_2.Num, I v_2.Den]), some (.box [I (((rootR v_2).1).Num), I (((rootR v_2).1).Den)]), some (.box [I (((rootR v_2).1).Num), I (((rootR v_2).1).Den)])] [Con Tryd.prog 13 [.agg [I v_2.Num, I v_2.Den]] true (.tup [.agg [I (((rootR v_2).1).Num), I (((rootR v_2).1).Den)], I ((rootR v_2).2)]) ∧ ((.agg [I v_2.Num, I v_2.Den] : AV) = .agg [I v_2.Num, I v_2.Den]) ∧ True] (by kernel_rfl) hB ⟨⟨(specRootFraction_ok v_2), rfl, trivial⟩, trivial⟩ ?_
    refine ae_then ?_
    refine aw_seq ?_
    obtain ⟨v_3, n_3, hc3⟩ := DrawPowerFraction_ok code (by assumption)
    refine aw_reg [(1, .call [(true, slU8 false code)] true (.tup [.agg [I v_3.Num, I v_3.Den], I n_3])), (5, .new 18)] [0, 3, 4, 5, 6, 7, 8, 9, 10, 11, 12, 13, 14, 15, 16, 17, 18, 19] [3, 4, 5, 7, 9, 11, 13, 14, 16, 18] [slU8 false code, .ref 3 0, .ref 4 0, .ref 5 0, I ((addR v_1 w_1).2), .ref 7 0, I ((addR v_1 w_1).2), .ref 9 0, I ((timesR v_1 w_1).2), .ref 11 0, I ((timesR v_1 w_1).2), .ref 13 0, .ref 14 0, I ((rootR v_2).2), .ref 16 0, I ((rootR v_2).2), .ref 18 0, I n_3] [some (.box [I v_1.Num, I v_1.Den]), some (.box [I w_1.Num, I w_1.Den]), some (.box [I (((addR v_1 w_1).1).Num), I (((addR v_1 w_1).1).Den)]), some (.box [I (((addR v_1 w_1).1).Num), I (((addR v_1 w_1).1).Den)]), some (.box [I (((timesR v_1 w_1).1).Num), I (((timesR v_1 w_1).1).Den)]), some (.box [I (((timesR v_1 w_1).1).Num), I (((timesR v_1 w_1).1).Den)]), some (.box [I v_2.Num, I v_2.Den]), some (.box [I (((rootR v_2).1).Num), I (((rootR v_2).1).Den)]), some (.box [I (((rootR v_2).1).Num), I (((rootR v_2).1).Den)]), some (.box [I v_3.Num, I v_3.Den])] [Con Tryd.prog 14 [slU8 false code] true (.tup [.agg [I v_3.Num, I v_3.Den], I n_3]) ∧ ((slU8 false code : AV) = slU8 false code) ∧ True] (by kernel_rfl) hB ⟨⟨hc3, rfl, trivial⟩, trivial⟩ ?_
    refine ae_then ?_
    refine aw_seq ?_
    refine aw_reg [(2, .call [(true, .agg [I v_3.Num, I v_3.Den]), (true, I n_3)] true (.tup [.agg [I (((powR v_3 n_3).1).Num), I (((powR v_3 n_3).1).Den)], I ((powR v_3 n_3).2)])), (6, .new 20)] [0, 3, 4, 5, 6, 7, 8, 9, 10, 11, 12, 13, 14, 15, 16, 17, 18, 19, 20, 21] [3, 4, 5, 7, 9, 11, 13, 14, 16, 18, 20] [slU8 false code, .ref 3 0, .ref 4 0, .ref 5 0, I ((addR v_1 w_1).2), .ref 7 0, I ((addR v_1 w_1).2), .ref 9 0, I ((timesR v_1 w_1).2), .ref 11 0, I ((timesR v_1 w_1).2), .ref 13 0, .ref 14 0, I ((rootR v_2).2), .ref 16 0, I ((rootR v_2).2), .ref 18 0, I n_3, .ref 20 0, I ((powR v_3 n_3).2)] [some (.box [I v_1.Num, I v_1.Den]), some (.box [I w_1.Num, I w_1.Den]), some (.box [I (((addR v_1 w_1).1).Num), I (((addR v_1 w_1).1).Den)]), some (.box [I (((addR v_1 w_1).1).Num), I (((addR v_1 w_1).1).Den)]), some (.box [I (((timesR v_1 w_1).1).Num), I (((timesR v_1 w_1).1).Den)]), some (.box [I (((timesR v_1 w_1).1).Num), I (((timesR v_1 w_1).1).Den)]), some (.box [I v_2.Num, I v_2.Den]), some (.box [I (((rootR v_2).1).Num), I (((rootR v_2).1).Den)]), some (.box [I (((rootR v_2).1).Num), I (((rootR v_2).1).Den)]), some (.box [I v_3.Num, I v_3.Den]), some (.box [I (((powR v_3 n_3).1).Num), I (((powR v_3 n_3).1).Den)])] [Con Tryd.prog 15 [.agg [I v_3.Num, I v_3.Den], I n_3] true (.tup [.agg [I (((powR v_3 n_3).1).Num), I (((powR v_3 n_3).1).Den)], I ((powR v_3 n_3).2)]) ∧ ((.agg [I v_3.Num, I v_3.Den] : AV) = .agg [I v_3.Num, I v_3.Den]) ∧ ((I n_3 : AV) = I n_3) ∧ True] (by kernel_rfl) hB ⟨⟨(implPowerFraction_ok v_3 n_3), rfl, rfl, trivial⟩, trivial⟩ ?_
    refine ae_then ?_
    refine aw_seq ?_
    refine aw_reg [(2, .call [(true, .agg [I v_3.Num, I v_3.Den]), (true, I n_3)] true (.tup [.agg [I (((powR v_3 n_3).1).Num), I (((powR v_3 n_3).1).Den)], I ((powR v_3 n_3).2)])), (6, .new 22)] [0, 3, 4, 5, 6, 7, 8, 9, 10, 11, 12, 13, 14, 15, 16, 17, 20, 21, 22, 23] [3, 4, 5, 7, 9, 11, 13, 14, 16, 20, 22] [slU8 false code, .ref 3 0, .ref 4 0, .ref 5 0, I ((addR v_1 w_1).2), .ref 7 0, I ((addR v_1 w_1).2), .ref 9 0, I ((timesR v_1 w_1).2), .ref 11 0, I ((timesR v_1 w_1).2), .ref 13 0, .ref 14 0, I ((rootR v_2).2), .ref 16 0, I ((rootR v_2).2), .ref 20 0, I ((powR v_3 n_3).2), .ref 22 0, I ((powR v_3 n_3).2)] [some (.box [I v_1.Num, I v_1.Den]), some (.box [I w_1.Num, I w_1.Den]), some (.box [I (((addR v_1 w_1).1).Num), I (((addR v_1 w_1).1).Den)]), some (.box [I (((addR v_1 w_1).1).Num), I (((addR v_1 w_1).1).Den)]), some (.box [I (((timesR v_1 w_1).1).Num), I (((timesR v_1 w_1).1).Den)]), some (.box [I (((timesR v_1 w_1).1).Num), I (((timesR v_1 w_1).1).Den)]), some (.box [I v_2.Num, I v_2.Den]), some (.box [I (((rootR v_2).1).Num), I (((rootR v_2).1).Den)]), some (.box [I (((rootR v_2).1).Num), I (((rootR v_2).1).Den)]), some (.box [I (((powR v_3 n_3).1).Num), I (((powR v_3 n_3).1).Den)]), some (.box [I (((powR v_3 n_3).1).Num), I (((powR v_3 n_3).1).Den)])] [Con Tryd.prog 16 [.agg [I v_3.Num, I v_3.Den], I n_3] true (.tup [.agg [I (((powR v_3 n_3).1).Num), I (((powR v_3 n_3).1).Den)], I ((powR v_3 n_3).2)]) ∧ ((.agg [I v_3.Num, I v_3.Den] : AV) = .agg [I v_3.Num, I v_3.Den]) ∧ ((I n_3 : AV) = I n_3) ∧ True] (by kernel_rfl) hB ⟨⟨(specPowerFraction_ok v_3 n_3), rfl, rfl, trivial⟩, trivial⟩ ?_
    refine ae_then ?_
    refine aw_seq ?_
    obtain ⟨n_4, d_4, hc4⟩ := DrawMakeFraction_ok code (by assumption)
    refine aw_reg [(1, .call [(true, slU8 false code)] true (.tup [I n_4, I d_4]))] [3, 4, 5, 6, 7, 8, 9, 10, 11, 12, 13, 14, 15, 16, 17, 20, 21, 22, 23, 24, 25] [3, 4, 5, 7, 9, 11, 13, 14, 16, 20, 22] [.ref 3 0, .ref 4 0, .ref 5 0, I ((addR v_1 w_1).2), .ref 7 0, I ((addR v_1 w_1).2), .ref 9 0, I ((timesR v_1 w_1).2), .ref 11 0, I ((timesR v_1 w_1).2), .ref 13 0, .ref 14 0, I ((rootR v_2).2), .ref 16 0, I ((rootR v_2).2), .ref 20 0, I ((powR v_3 n_3).2), .ref 22 0, I ((powR v_3 n_3).2), I n_4, I d_4] [some (.box [I v_1.Num, I v_1.Den]), some (.box [I w_1.Num, I w_1.Den]), some (.box [I (((addR v_1 w_1).1).Num), I (((addR v_1 w_1).1).Den)]), some (.box [I (((addR v_1 w_1).1).Num), I (((addR v_1 w_1).1).Den)]), some (.box [I (((timesR v_1 w_1).1).Num), I (((timesR v_1 w_1).1).Den)]), some (.box [I (((timesR v_1 w_1).1).Num), I (((timesR v_1 w_1).1).Den)]), some (.box [I v_2.Num, I v_2.Den]), some (.box [I (((rootR v_2).1).Num), I (((rootR v_2).1).Den)]), some (.box [I (((rootR v_2).1).Num), I (((rootR v_2).1).Den)]), some (.box [I (((powR v_3 n_3).1).Num), I (((powR v_3 n_3).1).Den)]), some (.box [I (((powR v_3 n_3).1).Num), I (((powR v_3 n_3).1).Den)])] [Con Tryd.prog 17 [slU8 false code] true (.tup [I n_4, I d_4]) ∧ ((slU8 false code : AV) = slU8 false code) ∧ True] (by kernel_rfl) hB ⟨⟨hc4, rfl, trivial⟩, trivial⟩ ?_
    refine ae_then ?_
    refine aw_seq ?_
    refine aw_reg [(2, .call [(true, I n_4), (true, I d_4)] true (.tup [.agg [I (((makeR n_4 d_4).1).Num), I (((makeR n_4 d_4).1).Den)], I ((makeR n_4 d_4).2)])), (6, .new 26)] [3, 4, 5, 6, 7, 8, 9, 10, 11, 12, 13, 14, 15, 16, 17, 20, 21, 22, 23, 24, 25, 26, 27] [3, 4, 5, 7, 9, 11, 13, 14, 16, 20, 22, 26] [.ref 3 0, .ref 4 0, .ref 5 0, I ((addR v_1 w_1).2), .ref 7 0, I ((addR v_1 w_1).2), .ref 9 0, I ((timesR v_1 w_1).2), .ref 11 0, I ((timesR v_1 w_1).2), .ref 13 0, .ref 14 0, I ((rootR v_2).2), .ref 16 0, I ((rootR v_2).2), .ref 20 0, I ((powR v_3 n_3).2), .ref 22 0, I ((powR v_3 n_3).2), I n_4, I d_4, .ref 26 0, I ((makeR n_4 d_4).2)] [some (.box [I v_1.Num, I v_1.Den]), some (.box [I w_1.Num, I w_1.Den]), some (.box [I (((addR v_1 w_1).1).Num), I (((addR v_1 w_1).1).Den)]), some (.box [I (((addR v_1 w_1).1).Num), I (((addR v_1 w_1).1).Den)]), some (.box [I (((timesR v_1 w_1).1).Num), I (((timesR v_1 w_1).1).Den)]), some (.box [I (((timesR v_1 w_1).1).Num), I (((timesR v_1 w_1).1).Den)]), some (.box [I v_2.Num, I v_2.Den]), some (.box [I (((rootR v_2).1).Num), I (((rootR v_2).1).Den)]), some (.box [I (((rootR v_2).1).Num), I (((rootR v_2).1).Den)]), some (.box [I (((powR v_3 n_3).1).Num), I (((powR v_3 n_3).1).Den)]), some (.box [I (((powR v_3 n_3).1).Num), I (((powR v_3 n_3).1).Den)]), some (.box [I (((makeR n_4 d_4).1).Num), I (((makeR n_4 d_4).1).Den)])] [Con Tryd.prog 18 [I n_4, I d_4] true (.tup [.agg [I (((makeR n_4 d_4).1).Num), I (((makeR n_4 d_4).1).Den)], I ((makeR n_4 d_4).2)]) ∧ ((I n_4 : AV) = I n_4) ∧ ((I d_4 : AV) = I d_4) ∧ True] (by kernel_rfl) hB ⟨⟨(implMakeFraction_ok n_4 d_4), rfl, rfl, trivial⟩, trivial⟩ ?_
    refine ae_then ?_
    refine aw_seq ?_
    refine aw_reg [(2, .call [(true, I n_4), (true, I d_4)] true (.tup [.agg [I (((makeR n_4 d_4).1).Num), I (((makeR n_4 d_4).1).Den)], I ((makeR n_4 d_4).2)])), (6, .new 28)] [3, 4, 5, 6, 7, 8, 9, 10, 11, 12, 13, 14, 15, 16, 17, 20, 21, 22, 23, 26, 27, 28, 29] [3, 4, 5, 7, 9, 11, 13, 14, 16, 20, 22, 26, 28] [.ref 3 0, .ref 4 0, .ref 5 0, I ((addR v_1 w_1).2), .ref 7 0, I ((addR v_1 w_1).2), .ref 9 0, I ((timesR v_1 w_1).2), .ref 11 0, I ((timesR v_1 w_1).2), .ref 13 0, .ref 14 0, I ((rootR v_2).2), .ref 16 0, I ((rootR v_2).2), .ref 20 0, I ((powR v_3 n_3).2), .ref 22 0, I ((powR v_3 n_3).2), .ref 26 0, I ((makeR n_4 d_4).2), .ref 28 0, I ((makeR n_4 d_4).2)] [some (.box [I v_1.Num, I v_1.Den]), some (.box [I w_1.Num, I w_1.Den]), some (.box [I (((addR v_1 w_1).1).Num), I (((addR v_1 w_1).1).Den)]), some (.box [I (((addR v_1 w_1).1).Num), I (((addR v_1 w_1).1).Den)]), some (.box [I (((timesR v_1 w_1).1).Num), I (((timesR v_1 w_1).1).Den)]), some (.box [I (((timesR v_1 w_1).1).Num), I (((timesR v_1 w_1).1).Den)]), some (.box [I v_2.Num, I v_2.Den]), some (.box [I (((rootR v_2).1).Num), I (((rootR v_2).1).Den)]), some (.box [I (((rootR v_2).1).Num), I (((rootR v_2).1).Den)]), some (.box [I (((powR v_3 n_3).1).Num), I (((powR v_3 n_3).1).Den)]), some (.box [I (((powR v_3 n_3).1).Num), I (((powR v_3 n_3).1).Den)]), some (.box [I (((makeR n_4 d_4).1).Num), I (((makeR n_4 d_4).1).Den)]), some (.box [I (((makeR n_4 d_4).1).Num), I (((makeR n_4 d_4).1).Den)])] [Con Tryd.prog 19 [I n_4, I d_4] true (.tup [.agg [I (((makeR n_4 d_4).1).Num), I (((makeR n_4 d_4).1).Den)], I ((makeR n_4 d_4).2)]) ∧ ((I n_4 : AV) = I n_4) ∧ ((I d_4 : AV) = I d_4) ∧ True] (by kernel_rfl) hB ⟨⟨(specMakeFraction_ok n_4 d_4), rfl, rfl, trivial⟩, trivial⟩ ?_
    refine ae_then ?_
    refine aw_seq ?_
    refine aw_seq ?_
    rcases Bool.eq_false_or_eq_true (okFr v_1) with h2 | h2
    · refine aw_reg [(2, .dec false), (6, .dec false), (11, .dec false), (16, .dec false), (21, .dec false), (26, .dec false), (31, .dec false), (36, .dec false), (41, .dec false), (46, .dec false), (50, .call [(true, .agg [I v_1.Num, I v_1.Den])] true (Bv true)), (52, .call [(true, .agg [I v_1.Num, I v_1.Den])] true (Bv true)), (57, .call [(true, .agg [I v_1.Num, I v_1.Den])] true (Sv (fracT v_1))), (59, .call [(true, .agg [I v_1.Num, I v_1.Den])] true (Sv (fracT v_1))), (60, .dec false)] [3, 4, 5, 6, 9, 10, 13, 14, 15, 176] [3, 4, 5, 9, 13, 14] [.ref 3 0, .ref 4 0, .ref 5 0, I ((addR v_1 w_1).2), .ref 9 0, I ((timesR v_1 w_1).2), .ref 13 0, .ref 14 0, I ((rootR v_2).2), Bv false] [some (.box [I v_1.Num, I v_1.Den]), some (.box [I w_1.Num, I w_1.Den]), some (.box [I (((addR v_1 w_1).1).Num), I (((addR v_1 w_1).1).Den)]), some (.box [I (((timesR v_1 w_1).1).Num), I (((timesR v_1 w_1).1).Den)]), some (.box [I v_2.Num, I v_2.Den]), some (.box [I (((rootR v_2).1).Num), I (((rootR v_2).1).Den)])] [¬ (((addR v_1 w_1).2) ≠ ((addR v_1 w_1).2)), ¬ (¬ ((((addR v_1 w_1).1).Num) = (((addR v_1 w_1).1).Num) ∧ (((addR v_1 w_1).1).Den) = (((addR v_1 w_1).1).Den) ∧ True)), ¬ (((timesR v_1 w_1).2) ≠ ((timesR v_1 w_1).2)), ¬ (¬ ((((timesR v_1 w_1).1).Num) = (((timesR v_1 w_1).1).Num) ∧ (((timesR v_1 w_1).1).Den) = (((timesR v_1 w_1).1).Den) ∧ True)), ¬ (((rootR v_2).2) ≠ ((rootR v_2).2)), ¬ (¬ ((((rootR v_2).1).Num) = (((rootR v_2).1).Num) ∧ (((rootR v_2).1).Den) = (((rootR v_2).1).Den) ∧ True)), ¬ (((powR v_3 n_3).2) ≠ ((powR v_3 n_3).2)), ¬ (¬ ((((powR v_3 n_3).1).Num) = (((powR v_3 n_3).1).Num) ∧ (((powR v_3 n_3).1).Den) = (((powR v_3 n_3).1).Den) ∧ True)), ¬ (((makeR n_4 d_4).2) ≠ ((makeR n_4 d_4).2)), ¬ (¬ ((((makeR n_4 d_4).1).Num) = (((makeR n_4 d_4).1).Num) ∧ (((makeR n_4 d_4).1).Den) = (((makeR n_4 d_4).1).Den) ∧ True)), Con Tryd.prog 20 [.agg [I v_1.Num, I v_1.Den]] true (Bv true) ∧ ((.agg [I v_1.Num, I v_1.Den] : AV) = .agg [I v_1.Num, I v_1.Den]) ∧ True, Con Tryd.prog 21 [.agg [I v_1.Num, I v_1.Den]] true (Bv true) ∧ ((.agg [I v_1.Num, I v_1.Den] : AV) = .agg [I v_1.Num, I v_1.Den]) ∧ True, Con Tryd.prog 22 [.agg [I v_1.Num, I v_1.Den]] true (Sv (fracT v_1)) ∧ ((.agg [I v_1.Num, I v_1.Den] : AV) = .agg [I v_1.Num, I v_1.Den]) ∧ True, Con Tryd.prog 23 [.agg [I v_1.Num, I v_1.Den]] true (Sv (fracT v_1)) ∧ ((.agg [I v_1.Num, I v_1.Den] : AV) = .agg [I v_1.Num, I v_1.Den]) ∧ True, ¬ ((fracT v_1) ≠ (fracT v_1))] (by kernel_rfl) hB ⟨(fun hq => hq rfl), (fun hq => hq ⟨rfl, rfl, trivial⟩), (fun hq => hq rfl), (fun hq => hq ⟨rfl, rfl, trivial⟩), (fun hq => hq rfl), (fun hq => hq ⟨rfl, rfl, trivial⟩), (fun hq => hq rfl), (fun hq => hq ⟨rfl, rfl, trivial⟩), (fun hq => hq rfl), (fun hq => hq ⟨rfl, rfl, trivial⟩), ⟨(con_bool h2 (ValidFraction_ok v_1)), rfl, trivial⟩, ⟨(con_bool h2 (specValidFraction_ok v_1)), rfl, trivial⟩, ⟨(implFractionText_ok v_1), rfl, trivial⟩, ⟨(specFractionText_ok v_1), rfl, trivial⟩, (fun hq => hq rfl), trivial⟩ ?_
      refine ae_then ?_
      refine aw_false rfl ?_
      refine aw_skip ?_
      refine ae_then ?_
      refine aw_seq ?_
      refine aw_seq ?_
      by_cases h3 : ((rootR v_2).2) = 0
      · have hsq := root_square h3
        refine aw_reg [(1, .dec true)] [3, 4, 5, 6, 9, 10, 13, 14, 178] [3, 4, 5, 9, 13, 14] [.ref 3 0, .ref 4 0, .ref 5 0, I ((addR v_1 w_1).2), .ref 9 0, I ((timesR v_1 w_1).2), .ref 13 0, .ref 14 0, Bv true] [some (.box [I v_1.Num, I v_1.Den]), some (.box [I w_1.Num, I w_1.Den]), some (.box [I (((addR v_1 w_1).1).Num), I (((addR v_1 w_1).1).Den)]), some (.box [I (((timesR v_1 w_1).1).Num), I (((timesR v_1 w_1).1).Den)]), some (.box [I v_2.Num, I v_2.Den]), some (.box [I (((rootR v_2).1).Num), I (((rootR v_2).1).Den)])] [((rootR v_2).2) = 0] (by kernel_rfl) hB ⟨h3, trivial⟩ ?_
        refine ae_then ?_
        refine aw_true rfl ?_
        refine aw_seq ?_
        refine aw_reg [(1, .call [(true, .agg [I (((rootR v_2).1).Num), I (((rootR v_2).1).Den)]), (true, I 2)] true (.tup [.agg [I (((powR ((rootR v_2).1) 2).1).Num), I (((powR ((rootR v_2).1) 2).1).Den)], I ((powR ((rootR v_2).1) 2).2)])), (5, .new 30)] [3, 4, 5, 6, 9, 10, 13, 30, 31] [3, 4, 5, 9, 13, 30] [.ref 3 0, .ref 4 0, .ref 5 0, I ((addR v_1 w_1).2), .ref 9 0, I ((timesR v_1 w_1).2), .ref 13 0, .ref 30 0, I ((powR ((rootR v_2).1) 2).2)] [some (.box [I v_1.Num, I v_1.Den]), some (.box [I w_1.Num, I w_1.Den]), some (.box [I (((addR v_1 w_1).1).Num), I (((addR v_1 w_1).1).Den)]), some (.box [I (((timesR v_1 w_1).1).Num), I (((timesR v_1 w_1).1).Den)]), some (.box [I v_2.Num, I v_2.Den]), some (.box [I (((powR ((rootR v_2).1) 2).1).Num), I (((powR ((rootR v_2).1) 2).1).Den)])] [Con Tryd.prog 15 [.agg [I (((rootR v_2).1).Num), I (((rootR v_2).1).Den)], I 2] true (.tup [.agg [I (((powR ((rootR v_2).1) 2).1).Num), I (((powR ((rootR v_2).1) 2).1).Den)], I ((powR ((rootR v_2).1) 2).2)]) ∧ ((.agg [I (((rootR v_2).1).Num), I (((rootR v_2).1).Den)] : AV) = .agg [I (((rootR v_2).1).Num), I (((rootR v_2).1).Den)]) ∧ ((I 2 : AV) = I 2) ∧ True] (by kernel_rfl) hB ⟨⟨(implPowerFraction_ok ((rootR v_2).1) 2), rfl, rfl, trivial⟩, trivial⟩ ?_
        refine ae_then ?_
        refine aw_seq ?_
        refine aw_reg [(1, .dec false), (5, .dec false)] [3, 4, 5, 6, 9, 10, 190] [3, 4, 5, 9] [.ref 3 0, .ref 4 0, .ref 5 0, I ((addR v_1 w_1).2), .ref 9 0, I ((timesR v_1 w_1).2), Bv false] [some (.box [I v_1.Num, I v_1.Den]), some (.box [I w_1.Num, I w_1.Den]), some (.box [I (((addR v_1 w_1).1).Num), I (((addR v_1 w_1).1).Den)]), some (.box [I (((timesR v_1 w_1).1).Num), I (((timesR v_1 w_1).1).Den)])] [¬ (((powR ((rootR v_2).1) 2).2) ≠ 0), ¬ (¬ ((((powR ((rootR v_2).1) 2).1).Num) = v_2.Num ∧ (((powR ((rootR v_2).1) 2).1).Den) = v_2.Den ∧ True))] (by kernel_rfl) hB ⟨(fun hq => hq (congrArg Prod.snd hsq)), (fun hq => hq ⟨congrArg (fun z => z.1.Num) hsq, congrArg (fun z => z.1.Den) hsq, trivial⟩), trivial⟩ ?_
        refine ae_then ?_
        refine aw_false rfl ?_
        refine aw_skip ?_
        refine ae_then ?_
        refine aw_seq ?_
        refine aw_seq ?_
        by_cases h4 : ((addR v_1 w_1).2) = 0
        · have hab := add_back h4
          have fB2 := okFr_iff.1 hab.2.1
          refine aw_reg [(1, .dec false)] [3, 4, 5, 9, 10, 192] [3, 4, 5, 9] [.ref 3 0, .ref 4 0, .ref 5 0, .ref 9 0, I ((timesR v_1 w_1).2), Bv false] [some (.box [I v_1.Num, I v_1.Den]), some (.box [I w_1.Num, I w_1.Den]), some (.box [I (((addR v_1 w_1).1).Num), I (((addR v_1 w_1).1).Den)]), some (.box [I (((timesR v_1 w_1).1).Num), I (((timesR v_1 w_1).1).Den)])] [¬ (((addR v_1 w_1).2) ≠ 0)] (by kernel_rfl) hB ⟨(fun hq => hq h4), trivial⟩ ?_
          refine ae_then ?_
          refine aw_false rfl ?_
          refine aw_skip ?_
          refine ae_then ?_
          refine aw_seq ?_
          refine aw_reg [(7, .call [(true, .agg [I (((addR v_1 w_1).1).Num), I (((addR v_1 w_1).1).Den)]), (true, .agg [I (-w_1.Num), I w_1.Den])] true (.tup [.agg [I (((addR ((addR v_1 w_1).1) (Fraction.mk (-w_1.Num) w_1.Den)).1).Num), I (((addR ((addR v_1 w_1).1) (Fraction.mk (-w_1.Num) w_1.Den)).1).Den)], I ((addR ((addR v_1 w_1).1) (Fraction.mk (-w_1.Num) w_1.Den)).2)])), (11, .new 32)] [3, 4, 9, 10, 32, 33] [3, 4, 9, 32] [.ref 3 0, .ref 4 0, .ref 9 0, I ((timesR v_1 w_1).2), .ref 32 0, I ((addR ((addR v_1 w_1).1) (Fraction.mk (-w_1.Num) w_1.Den)).2)] [some (.box [I v_1.Num, I v_1.Den]), some (.box [I w_1.Num, I w_1.Den]), some (.box [I (((timesR v_1 w_1).1).Num), I (((timesR v_1 w_1).1).Den)]), some (.box [I (((addR ((addR v_1 w_1).1) (Fraction.mk (-w_1.Num) w_1.Den)).1).Num), I (((addR ((addR v_1 w_1).1) (Fraction.mk (-w_1.Num) w_1.Den)).1).Den)])] [inR .i64 (-w_1.Num), Con Tryd.prog 7 [.agg [I (((addR v_1 w_1).1).Num), I (((addR v_1 w_1).1).Den)], .agg [I (-w_1.Num), I w_1.Den]] true (.tup [.agg [I (((addR ((addR v_1 w_1).1) (Fraction.mk (-w_1.Num) w_1.Den)).1).Num), I (((addR ((addR v_1 w_1).1) (Fraction.mk (-w_1.Num) w_1.Den)).1).Den)], I ((addR ((addR v_1 w_1).1) (Fraction.mk (-w_1.Num) w_1.Den)).2)]) ∧ ((.agg [I (((addR v_1 w_1).1).Num), I (((addR v_1 w_1).1).Den)] : AV) = .agg [I (((addR v_1 w_1).1).Num), I (((addR v_1 w_1).1).Den)]) ∧ ((.agg [I (-w_1.Num), I w_1.Den] : AV) = .agg [I (-w_1.Num), I w_1.Den]) ∧ True] (by kernel_rfl) hB ⟨(inR_i64 (by omega) (by omega)), ⟨(implAddFractions_ok ((addR v_1 w_1).1) (Fraction.mk (-w_1.Num) w_1.Den)), rfl, rfl, trivial⟩, trivial⟩ ?_
          refine ae_then ?_
          refine aw_seq ?_
          refine aw_seq ?_
          refine aw_reg [(1, .dec false), (5, .dec false)] [3, 4, 9, 10, 210] [3, 4, 9] [.ref 3 0, .ref 4 0, .ref 9 0, I ((timesR v_1 w_1).2), Bv false] [some (.box [I v_1.Num, I v_1.Den]), some (.box [I w_1.Num, I w_1.Den]), some (.box [I (((timesR v_1 w_1).1).Num), I (((timesR v_1 w_1).1).Den)])] [¬ (((addR ((addR v_1 w_1).1) (Fraction.mk (-w_1.Num) w_1.Den)).2) ≠ 0), ¬ (¬ ((((addR ((addR v_1 w_1).1) (Fraction.mk (-w_1.Num) w_1.Den)).1).Num) = v_1.Num ∧ (((addR ((addR v_1 w_1).1) (Fraction.mk (-w_1.Num) w_1.Den)).1).Den) = v_1.Den ∧ True))] (by kernel_rfl) hB ⟨(fun hq => hq (congrArg Prod.snd hab.2.2)), (fun hq => hq ⟨congrArg (fun z => z.1.Num) hab.2.2, congrArg (fun z => z.1.Den) hab.2.2, trivial⟩), trivial⟩ ?_
          refine ae_then ?_
          refine aw_false rfl ?_
          refine aw_skip ?_
          refine ae_then ?_
          refine aw_seq ?_
          refine aw_seq ?_
          by_cases h5 : ((timesR v_1 w_1).2) = 0
          · by_cases h6 : w_1.Num = 0
            · refine aw_reg [(1, .dec false), (5, .dec true)] [3, 4, 9, 217] [3, 4, 9] [.ref 3 0, .ref 4 0, .ref 9 0, Bv true] [some (.box [I v_1.Num, I v_1.Den]), some (.box [I w_1.Num, I w_1.Den]), some (.box [I (((timesR v_1 w_1).1).Num), I (((timesR v_1 w_1).1).Den)])] [¬ (((timesR v_1 w_1).2) ≠ 0), w_1.Num = 0] (by kernel_rfl) hB ⟨(fun hq => hq h5), h6, trivial⟩ ?_
              refine ae_then ?_
              refine aw_true rfl ?_
              refine aw_seq ?_
              refine aw_reg [] [2] [] [Bv true] [] [] (by kernel_rfl) hB trivial ?_
              refine ae_then ?_
              refine aw_ret ?_
              refine ae_ret_then ?_
              refine ae_ret hB (Bv true) (by kernel_rfl) (.inl rfl) rfl (fun _ => trivial)
            · have htb := times_back h5 h6
              have htc : timesR (timesR v_1 w_1).1 (powR w_1 (-1)).1 = (v_1, 0) := by rw [htb.1]; exact htb.2
              refine aw_reg [(1, .dec false), (5, .dec false)] [3, 4, 9, 217] [3, 4, 9] [.ref 3 0, .ref 4 0, .ref 9 0, Bv false] [some (.box [I v_1.Num, I v_1.Den]), some (.box [I w_1.Num, I w_1.Den]), some (.box [I (((timesR v_1 w_1).1).Num), I (((timesR v_1 w_1).1).Den)])] [¬ (((timesR v_1 w_1).2) ≠ 0), ¬ (w_1.Num = 0)] (by kernel_rfl) hB ⟨(fun hq => hq h5), h6, trivial⟩ ?_
              refine ae_then ?_
              refine aw_false rfl ?_
              refine aw_skip ?_
              refine ae_then ?_
              refine aw_seq ?_
              refine aw_reg [(1, .call [(true, .agg [I w_1.Num, I w_1.Den]), (true, I (-1))] true (.tup [.agg [I (((powR w_1 (-1)).1).Num), I (((powR w_1 (-1)).1).Den)], I ((powR w_1 (-1)).2)])), (5, .new 34)] [3, 9, 34, 35] [3, 9, 34] [.ref 3 0, .ref 9 0, .ref 34 0, I ((powR w_1 (-1)).2)] [some (.box [I v_1.Num, I v_1.Den]), some (.box [I (((timesR v_1 w_1).1).Num), I (((timesR v_1 w_1).1).Den)]), some (.box [I (((powR w_1 (-1)).1).Num), I (((powR w_1 (-1)).1).Den)])] [Con Tryd.prog 15 [.agg [I w_1.Num, I w_1.Den], I (-1)] true (.tup [.agg [I (((powR w_1 (-1)).1).Num), I (((powR w_1 (-1)).1).Den)], I ((powR w_1 (-1)).2)]) ∧ ((.agg [I w_1.Num, I w_1.Den] : AV) = .agg [I w_1.Num, I w_1.Den]) ∧ ((I (-1) : AV) = I (-1)) ∧ True] (by kernel_rfl) hB ⟨⟨(implPowerFraction_ok w_1 (-1)), rfl, rfl, trivial⟩, trivial⟩ ?_
              refine ae_then ?_
              refine aw_seq ?_
              refine aw_reg [(2, .call [(true, .agg [I (((timesR v_1 w_1).1).Num), I (((timesR v_1 w_1).1).Den)]), (true, .agg [I (((powR w_1 (-1)).1).Num), I (((powR w_1 (-1)).1).Den)])] true (.tup [.agg [I (((timesR ((timesR v_1 w_1).1) ((powR w_1 (-1)).1)).1).Num), I (((timesR ((timesR v_1 w_1).1) ((powR w_1 (-1)).1)).1).Den)], I ((timesR ((timesR v_1 w_1).1) ((powR w_1 (-1)).1)).2)])), (6, .new 36)] [3, 35, 36, 37] [3, 36] [.ref 3 0, I ((powR w_1 (-1)).2), .ref 36 0, I ((timesR ((timesR v_1 w_1).1) ((powR w_1 (-1)).1)).2)] [some (.box [I v_1.Num, I v_1.Den]), some (.box [I (((timesR ((timesR v_1 w_1).1) ((powR w_1 (-1)).1)).1).Num), I (((timesR ((timesR v_1 w_1).1) ((powR w_1 (-1)).1)).1).Den)])] [Con Tryd.prog 9 [.agg [I (((timesR v_1 w_1).1).Num), I (((timesR v_1 w_1).1).Den)], .agg [I (((powR w_1 (-1)).1).Num), I (((powR w_1 (-1)).1).Den)]] true (.tup [.agg [I (((timesR ((timesR v_1 w_1).1) ((powR w_1 (-1)).1)).1).Num), I (((timesR ((timesR v_1 w_1).1) ((powR w_1 (-1)).1)).1).Den)], I ((timesR ((timesR v_1 w_1).1) ((powR w_1 (-1)).1)).2)]) ∧ ((.agg [I (((timesR v_1 w_1).1).Num), I (((timesR v_1 w_1).1).Den)] : AV) = .agg [I (((timesR v_1 w_1).1).Num), I (((timesR v_1 w_1).1).Den)]) ∧ ((.agg [I (((powR w_1 (-1)).1).Num), I (((powR w_1 (-1)).1).Den)] : AV) = .agg [I (((powR w_1 (-1)).1).Num), I (((powR w_1 (-1)).1).Den)]) ∧ True] (by kernel_rfl) hB ⟨⟨(implTimesFractions_ok ((timesR v_1 w_1).1) ((powR w_1 (-1)).1)), rfl, rfl, trivial⟩, trivial⟩ ?_
              refine ae_then ?_
              refine aw_seq ?_
              refine aw_reg [(1, .dec true), (4, .dec true), (9, .dec true)] [2] [] [Bv true] [] [((powR w_1 (-1)).2) = 0, ((timesR ((timesR v_1 w_1).1) ((powR w_1 (-1)).1)).2) = 0, (((timesR ((timesR v_1 w_1).1) ((powR w_1 (-1)).1)).1).Num) = v_1.Num ∧ (((timesR ((timesR v_1 w_1).1) ((powR w_1 (-1)).1)).1).Den) = v_1.Den ∧ True] (by kernel_rfl) hB ⟨(congrArg Prod.snd htb.1), (congrArg Prod.snd htc), ⟨congrArg (fun z => z.1.Num) htc, congrArg (fun z => z.1.Den) htc, trivial⟩, trivial⟩ ?_
              refine ae_then ?_
              refine aw_ret ?_
              refine ae_ret hB (Bv true) (by kernel_rfl) (.inl rfl) rfl (fun _ => trivial)
          · refine aw_reg [(1, .dec true)] [3, 4, 9, 217] [3, 4, 9] [.ref 3 0, .ref 4 0, .ref 9 0, Bv true] [some (.box [I v_1.Num, I v_1.Den]), some (.box [I w_1.Num, I w_1.Den]), some (.box [I (((timesR v_1 w_1).1).Num), I (((timesR v_1 w_1).1).Den)])] [((timesR v_1 w_1).2) ≠ 0] (by kernel_rfl) hB ⟨h5, trivial⟩ ?_
            refine ae_then ?_
            refine aw_true rfl ?_
            refine aw_seq ?_
            refine aw_reg [] [2] [] [Bv true] [] [] (by kernel_rfl) hB trivial ?_
            refine ae_then ?_
            refine aw_ret ?_
            refine ae_ret_then ?_
            refine ae_ret hB (Bv true) (by kernel_rfl) (.inl rfl) rfl (fun _ => trivial)
        · refine aw_reg [(1, .dec true)] [3, 4, 5, 9, 10, 192] [3, 4, 5, 9] [.ref 3 0, .ref 4 0, .ref 5 0, .ref 9 0, I ((timesR v_1 w_1).2), Bv true] [some (.box [I v_1.Num, I v_1.Den]), some (.box [I w_1.Num, I w_1.Den]), some (.box [I (((addR v_1 w_1).1).Num), I (((addR v_1 w_1).1).Den)]), some (.box [I (((timesR v_1 w_1).1).Num), I (((timesR v_1 w_1).1).Den)])] [((addR v_1 w_1).2) ≠ 0] (by kernel_rfl) hB ⟨h4, trivial⟩ ?_
          refine ae_then ?_
          refine aw_true rfl ?_
          refine aw_seq ?_
          refine aw_reg [] [2] [] [Bv true] [] [] (by kernel_rfl) hB trivial ?_
          refine ae_then ?_
          refine aw_ret ?_
          refine ae_ret_then ?_
          refine ae_ret hB (Bv true) (by kernel_rfl) (.inl rfl) rfl (fun _ => trivial)
      · refine aw_reg [(1, .dec false)] [3, 4, 5, 6, 9, 10, 13, 14, 178] [3, 4, 5, 9, 13, 14] [.ref 3 0, .ref 4 0, .ref 5 0, I ((addR v_1 w_1).2), .ref 9 0, I ((timesR v_1 w_1).2), .ref 13 0, .ref 14 0, Bv false] [some (.box [I v_1.Num, I v_1.Den]), some (.box [I w_1.Num, I w_1.Den]), some (.box [I (((addR v_1 w_1).1).Num), I (((addR v_1 w_1).1).Den)]), some (.box [I (((timesR v_1 w_1).1).Num), I (((timesR v_1 w_1).1).Den)]), some (.box [I v_2.Num, I v_2.Den]), some (.box [I (((rootR v_2).1).Num), I (((rootR v_2).1).Den)])] [¬ (((rootR v_2).2) = 0)] (by kernel_rfl) hB ⟨h3, trivial⟩ ?_
        refine ae_then ?_
        refine aw_false rfl ?_
        refine aw_skip ?_
        refine ae_then ?_
        refine aw_seq ?_
        refine aw_seq ?_
        by_cases h7 : ((addR v_1 w_1).2) = 0
        · have hab := add_back h7
          have fB2 := okFr_iff.1 hab.2.1
          refine aw_reg [(1, .dec false)] [3, 4, 5, 9, 10, 192] [3, 4, 5, 9] [.ref 3 0, .ref 4 0, .ref 5 0, .ref 9 0, I ((timesR v_1 w_1).2), Bv false] [some (.box [I v_1.Num, I v_1.Den]), some (.box [I w_1.Num, I w_1.Den]), some (.box [I (((addR v_1 w_1).1).Num), I (((addR v_1 w_1).1).Den)]), some (.box [I (((timesR v_1 w_1).1).Num), I (((timesR v_1 w_1).1).Den)])] [¬ (((addR v_1 w_1).2) ≠ 0)] (by kernel_rfl) hB ⟨(fun hq => hq h7), trivial⟩ ?_
          refine ae_then ?_
          refine aw_false rfl ?_
          refine aw_skip ?_
          refine ae_then ?_
          refine aw_seq ?_
          refine aw_reg [(7, .call [(true, .agg [I (((addR v_1 w_1).1).Num), I (((addR v_1 w_1).1).Den)]), (true, .agg [I (-w_1.Num), I w_1.Den])] true (.tup [.agg [I (((addR ((addR v_1 w_1).1) (Fraction.mk (-w_1.Num) w_1.Den)).1).Num), I (((addR ((addR v_1 w_1).1) (Fraction.mk (-w_1.Num) w_1.Den)).1).Den)], I ((addR ((addR v_1 w_1).1) (Fraction.mk (-w_1.Num) w_1.Den)).2)])), (11, .new 32)] [3, 4, 9, 10, 32, 33] [3, 4, 9, 32] [.ref 3 0, .ref 4 0, .ref 9 0, I ((timesR v_1 w_1).2), .ref 32 0, I ((addR ((addR v_1 w_1).1) (Fraction.mk (-w_1.Num) w_1.Den)).2)] [some (.box [I v_1.Num, I v_1.Den]), some (.box [I w_1.Num, I w_1.Den]), some (.box [I (((timesR v_1 w_1).1).Num), I (((timesR v_1 w_1).1).Den)]), some (.box [I (((addR ((addR v_1 w_1).1) (Fraction.mk (-w_1.Num) w_1.Den)).1).Num), I (((addR ((addR v_1 w_1).1) (Fraction.mk (-w_1.Num) w_1.Den)).1).Den)])] [inR .i64 (-w_1.Num), Con Tryd.prog 7 [.agg [I (((addR v_1 w_1).1).Num), I (((addR v_1 w_1).1).Den)], .agg [I (-w_1.Num), I w_1.Den]] true (.tup [.agg [I (((addR ((addR v_1 w_1).1) (Fraction.mk (-w_1.Num) w_1.Den)).1).Num), I (((addR ((addR v_1 w_1).1) (Fraction.mk (-w_1.Num) w_1.Den)).1).Den)], I ((addR ((addR v_1 w_1).1) (Fraction.mk (-w_1.Num) w_1.Den)).2)]) ∧ ((.agg [I (((addR v_1 w_1).1).Num), I (((addR v_1 w_1).1).Den)] : AV) = .agg [I (((addR v_1 w_1).1).Num), I (((addR v_1 w_1).1).Den)]) ∧ ((.agg [I (-w_1.Num), I w_1.Den] : AV) = .agg [I (-w_1.Num), I w_1.Den]) ∧ True] (by kernel_rfl) hB ⟨(inR_i64 (by omega) (by omega)), ⟨(implAddFractions_ok ((addR v_1 w_1).1) (Fraction.mk (-w_1.Num) w_1.Den)), rfl, rfl, trivial⟩, trivial⟩ ?_
          refine ae_then ?_
          refine aw_seq ?_
          refine aw_seq ?_
          refine aw_reg [(1, .dec false), (5, .dec false)] [3, 4, 9, 10, 210] [3, 4, 9] [.ref 3 0, .ref 4 0, .ref 9 0, I ((timesR v_1 w_1).2), Bv false] [some (.box [I v_1.Num, I v_1.Den]), some (.box [I w_1.Num, I w_1.Den]), some (.box [I (((timesR v_1 w_1).1).Num), I (((timesR v_1 w_1).1).Den)])] [¬ (((addR ((addR v_1 w_1).1) (Fraction.mk (-w_1.Num) w_1.Den)).2) ≠ 0), ¬ (¬ ((((addR ((addR v_1 w_1).1) (Fraction.mk (-w_1.Num) w_1.Den)).1).Num) = v_1.Num ∧ (((addR ((addR v_1 w_1).1) (Fraction.mk (-w_1.Num) w_1.Den)).1).Den) = v_1.Den ∧ True))] (by kernel_rfl) hB ⟨(fun hq => hq (congrArg Prod.snd hab.2.2)), (fun hq => hq ⟨congrArg (fun z => z.1.Num) hab.2.2, congrArg (fun z => z.1.Den) hab.2.2, trivial⟩), trivial⟩ ?_
          refine ae_then ?_
          refine aw_false rfl ?_
          refine aw_skip ?_
          refine ae_then ?_
          refine aw_seq ?_
          refine aw_seq ?_
          by_cases h8 : ((timesR v_1 w_1).2) = 0
          · by_cases h9 : w_1.Num = 0
            · refine aw_reg [(1, .dec false), (5, .dec true)] [3, 4, 9, 217] [3, 4, 9] [.ref 3 0, .ref 4 0, .ref 9 0, Bv true] [some (.box [I v_1.Num, I v_1.Den]), some (.box [I w_1.Num, I w_1.Den]), some (.box [I (((timesR v_1 w_1).1).Num), I (((timesR v_1 w_1).1).Den)])] [¬ (((timesR v_1 w_1).2) ≠ 0), w_1.Num = 0] (by kernel_rfl) hB ⟨(fun hq => hq h8), h9, trivial⟩ ?_
              refine ae_then ?_
              refine aw_true rfl ?_
              refine aw_seq ?_
              refine aw_reg [] [2] [] [Bv true] [] [] (by kernel_rfl) hB trivial ?_
              refine ae_then ?_
              refine aw_ret ?_
              refine ae_ret_then ?_
              refine ae_ret hB (Bv true) (by kernel_rfl) (.inl rfl) rfl (fun _ => trivial)
            · have htb := times_back h8 h9
              have htc : timesR (timesR v_1 w_1).1 (powR w_1 (-1)).1 = (v_1, 0) := by rw [htb.1]; exact htb.2
              refine aw_reg [(1, .dec false), (5, .dec false)] [3, 4, 9, 217] [3, 4, 9] [.ref 3 0, .ref 4 0, .ref 9 0, Bv false] [some (.box [I v_1.Num, I v_1.Den]), some (.box [I w_1.Num, I w_1.Den]), some (.box [I (((timesR v_1 w_1).1).Num), I (((timesR v_1 w_1).1).Den)])] [¬ (((timesR v_1 w_1).2) ≠ 0), ¬ (w_1.Num = 0)] (by kernel_rfl) hB ⟨(fun hq => hq h8), h9, trivial⟩ ?_
              refine ae_then ?_
              refine aw_false rfl ?_
              refine aw_skip ?_
              refine ae_then ?_
              refine aw_seq ?_
              refine aw_reg [(1, .call [(true, .agg [I w_1.Num, I w_1.Den]), (true, I (-1))] true (.tup [.agg [I (((powR w_1 (-1)).1).Num), I (((powR w_1 (-1)).1).Den)], I ((powR w_1 (-1)).2)])), (5, .new 34)] [3, 9, 34, 35] [3, 9, 34] [.ref 3 0, .ref 9 0, .ref 34 0, I ((powR w_1 (-1)).2)] [some (.box [I v_1.Num, I v_1.Den]), some (.box [I (((timesR v_1 w_1).1).Num), I (((timesR v_1 w_1).1).Den)]), some (.box [I (((powR w_1 (-1)).1).Num), I (((powR w_1 (-1)).1).Den)])] [Con Tryd.prog 15 [.agg [I w_1.Num, I w_1.Den], I (-1)] true (.tup [.agg [I (((powR w_1 (-1)).1).Num), I (((powR w_1 (-1)).1).Den)], I ((powR w_1 (-1)).2)]) ∧ ((.agg [I w_1.Num, I w_1.Den] : AV) = .agg [I w_1.Num, I w_1.Den]) ∧ ((I (-1) : AV) = I (-1)) ∧ True] (by kernel_rfl) hB ⟨⟨(implPowerFraction_ok w_1 (-1)), rfl, rfl, trivial⟩, trivial⟩ ?_
              refine ae_then ?_
              refine aw_seq ?_
              refine aw_reg [(2, .call [(true, .agg [I (((timesR v_1 w_1).1).Num), I (((timesR v_1 w_1).1).Den)]), (true, .agg [I (((powR w_1 (-1)).1).Num), I (((powR w_1 (-1)).1).Den)])] true (.tup [.agg [I (((timesR ((timesR v_1 w_1).1) ((powR w_1 (-1)).1)).1).Num), I (((timesR ((timesR v_1 w_1).1) ((powR w_1 (-1)).1)).1).Den)], I ((timesR ((timesR v_1 w_1).1) ((powR w_1 (-1)).1)).2)])), (6, .new 36)] [3, 35, 36, 37] [3, 36] [.ref 3 0, I ((powR w_1 (-1)).2), .ref 36 0, I ((timesR ((timesR v_1 w_1).1) ((powR w_1 (-1)).1)).2)] [some (.box [I v_1.Num, I v_1.Den]), some (.box [I (((timesR ((timesR v_1 w_1).1) ((powR w_1 (-1)).1)).1).Num), I (((timesR ((timesR v_1 w_1).1) ((powR w_1 (-1)).1)).1).Den)])] [Con Tryd.prog 9 [.agg [I (((timesR v_1 w_1).1).Num), I (((timesR v_1 w_1).1).Den)], .agg [I (((powR w_1 (-1)).1).Num), I (((powR w_1 (-1)).1).Den)]] true (.tup [.agg [I (((timesR ((timesR v_1 w_1).1) ((powR w_1 (-1)).1)).1).Num), I (((timesR ((timesR v_1 w_1).1) ((powR w_1 (-1)).1)).1).Den)], I ((timesR ((timesR v_1 w_1).1) ((powR w_1 (-1)).1)).2)]) ∧ ((.agg [I (((timesR v_1 w_1).1).Num), I (((timesR v_1 w_1).1).Den)] : AV) = .agg [I (((timesR v_1 w_1).1).Num), I (((timesR v_1 w_1).1).Den)]) ∧ ((.agg [I (((powR w_1 (-1)).1).Num), I (((powR w_1 (-1)).1).Den)] : AV) = .agg [I (((powR w_1 (-1)).1).Num), I (((powR w_1 (-1)).1).Den)]) ∧ True] (by kernel_rfl) hB ⟨⟨(implTimesFractions_ok ((timesR v_1 w_1).1) ((powR w_1 (-1)).1)), rfl, rfl, trivial⟩, trivial⟩ ?_
              refine ae_then ?_
              refine aw_seq ?_
              refine aw_reg [(1, .dec true), (4, .dec true), (9, .dec true)] [2] [] [Bv true] [] [((powR w_1 (-1)).2) = 0, ((timesR ((timesR v_1 w_1).1) ((powR w_1 (-1)).1)).2) = 0, (((timesR ((timesR v_1 w_1).1) ((powR w_1 (-1)).1)).1).Num) = v_1.Num ∧ (((timesR ((timesR v_1 w_1).1) ((powR w_1 (-1)).1)).1).Den) = v_1.Den ∧ True] (by kernel_rfl) hB ⟨(congrArg Prod.snd htb.1), (congrArg Prod.snd htc), ⟨congrArg (fun z => z.1.Num) htc, congrArg (fun z => z.1.Den) htc, trivial⟩, trivial⟩ ?_
              refine ae_then ?_
              refine aw_ret ?_
              refine ae_ret hB (Bv true) (by kernel_rfl) (.inl rfl) rfl (fun _ => trivial)
          · refine aw_reg [(1, .dec true)] [3, 4, 9, 217] [3, 4, 9] [.ref 3 0, .ref 4 0, .ref 9 0, Bv true] [some (.box [I v_1.Num, I v_1.Den]), some (.box [I w_1.Num, I w_1.Den]), some (.box [I (((timesR v_1 w_1).1).Num), I (((timesR v_1 w_1).1).Den)])] [((timesR v_1 w_1).2) ≠ 0] (by kernel_rfl) hB ⟨h8, trivial⟩ ?_
            refine ae_then ?_
            refine aw_true rfl ?_
            refine aw_seq ?_
            refine aw_reg [] [2] [] [Bv true] [] [] (by kernel_rfl) hB trivial ?_
            refine ae_then ?_
            refine aw_ret ?_
            refine ae_ret_then ?_
            refine ae_ret hB (Bv true) (by kernel_rfl) (.inl rfl) rfl (fun _ => trivial)
        · refine aw_reg [(1, .dec true)] [3, 4, 5, 9, 10, 192] [3, 4, 5, 9] [.ref 3 0, .ref 4 0, .ref 5 0, .ref 9 0, I ((timesR v_1 w_1).2), Bv true] [some (.box [I v_1.Num, I v_1.Den]), some (.box [I w_1.Num, I w_1.Den]), some (.box [I (((addR v_1 w_1).1).Num), I (((addR v_1 w_1).1).Den)]), some (.box [I (((timesR v_1 w_1).1).Num), I (((timesR v_1 w_1).1).Den)])] [((addR v_1 w_1).2) ≠ 0] (by kernel_rfl) hB ⟨h7, trivial⟩ ?_
          refine ae_then ?_
          refine aw_true rfl ?_
          refine aw_seq ?_
          refine aw_reg [] [2] [] [Bv true] [] [] (by kernel_rfl) hB trivial ?_
          refine ae_then ?_
          refine aw_ret ?_
          refine ae_ret_then ?_
          refine ae_ret hB (Bv true) (by kernel_rfl) (.inl rfl) rfl (fun _ => trivial)
    · refine aw_reg [(2, .dec false), (6, .dec false), (11, .dec false), (16, .dec false), (21, .dec false), (26, .dec false), (31, .dec false), (36, .dec false), (41, .dec false), (46, .dec false), (50, .call [(true, .agg [I v_1.Num, I v_1.Den])] true (Bv false)), (52, .call [(true, .agg [I v_1.Num, I v_1.Den])] true (Bv false)), (57, .call [(true, .agg [I v_1.Num, I v_1.Den])] true (Sv (fracT v_1))), (59, .call [(true, .agg [I v_1.Num, I v_1.Den])] true (Sv (fracT v_1))), (60, .dec false)] [3, 4, 5, 6, 9, 10, 13, 14, 15, 176] [3, 4, 5, 9, 13, 14] [.ref 3 0, .ref 4 0, .ref 5 0, I ((addR v_1 w_1).2), .ref 9 0, I ((timesR v_1 w_1).2), .ref 13 0, .ref 14 0, I ((rootR v_2).2), Bv false] [some (.box [I v_1.Num, I v_1.Den]), some (.box [I w_1.Num, I w_1.Den]), some (.box [I (((addR v_1 w_1).1).Num), I (((addR v_1 w_1).1).Den)]), some (.box [I (((timesR v_1 w_1).1).Num), I (((timesR v_1 w_1).1).Den)]), some (.box [I v_2.Num, I v_2.Den]), some (.box [I (((rootR v_2).1).Num), I (((rootR v_2).1).Den)])] [¬ (((addR v_1 w_1).2) ≠ ((addR v_1 w_1).2)), ¬ (¬ ((((addR v_1 w_1).1).Num) = (((addR v_1 w_1).1).Num) ∧ (((addR v_1 w_1).1).Den) = (((addR v_1 w_1).1).Den) ∧ True)), ¬ (((timesR v_1 w_1).2) ≠ ((timesR v_1 w_1).2)), ¬ (¬ ((((timesR v_1 w_1).1).Num) = (((timesR v_1 w_1).1).Num) ∧ (((timesR v_1 w_1).1).Den) = (((timesR v_1 w_1).1).Den) ∧ True)), ¬ (((rootR v_2).2) ≠ ((rootR v_2).2)), ¬ (¬ ((((rootR v_2).1).Num) = (((rootR v_2).1).Num) ∧ (((rootR v_2).1).Den) = (((rootR v_2).1).Den) ∧ True)), ¬ (((powR v_3 n_3).2) ≠ ((powR v_3 n_3).2)), ¬ (¬ ((((powR v_3 n_3).1).Num) = (((powR v_3 n_3).1).Num) ∧ (((powR v_3 n_3).1).Den) = (((powR v_3 n_3).1).Den) ∧ True)), ¬ (((makeR n_4 d_4).2) ≠ ((makeR n_4 d_4).2)), ¬ (¬ ((((makeR n_4 d_4).1).Num) = (((makeR n_4 d_4).1).Num) ∧ (((makeR n_4 d_4).1).Den) = (((makeR n_4 d_4).1).Den) ∧ True)), Con Tryd.prog 20 [.agg [I v_1.Num, I v_1.Den]] true (Bv false) ∧ ((.agg [I v_1.Num, I v_1.Den] : AV) = .agg [I v_1.Num, I v_1.Den]) ∧ True, Con Tryd.prog 21 [.agg [I v_1.Num, I v_1.Den]] true (Bv false) ∧ ((.agg [I v_1.Num, I v_1.Den] : AV) = .agg [I v_1.Num, I v_1.Den]) ∧ True, Con Tryd.prog 22 [.agg [I v_1.Num, I v_1.Den]] true (Sv (fracT v_1)) ∧ ((.agg [I v_1.Num, I v_1.Den] : AV) = .agg [I v_1.Num, I v_1.Den]) ∧ True, Con Tryd.prog 23 [.agg [I v_1.Num, I v_1.Den]] true (Sv (fracT v_1)) ∧ ((.agg [I v_1.Num, I v_1.Den] : AV) = .agg [I v_1.Num, I v_1.Den]) ∧ True, ¬ ((fracT v_1) ≠ (fracT v_1))] (by kernel_rfl) hB ⟨(fun hq => hq rfl), (fun hq => hq ⟨rfl, rfl, trivial⟩), (fun hq => hq rfl), (fun hq => hq ⟨rfl, rfl, trivial⟩), (fun hq => hq rfl), (fun hq => hq ⟨rfl, rfl, trivial⟩), (fun hq => hq rfl), (fun hq => hq ⟨rfl, rfl, trivial⟩), (fun hq => hq rfl), (fun hq => hq ⟨rfl, rfl, trivial⟩), ⟨(con_bool h2 (ValidFraction_ok v_1)), rfl, trivial⟩, ⟨(con_bool h2 (specValidFraction_ok v_1)), rfl, trivial⟩, ⟨(implFractionText_ok v_1), rfl, trivial⟩, ⟨(specFractionText_ok v_1), rfl, trivial⟩, (fun hq => hq rfl), trivial⟩ ?_
      refine ae_then ?_
      refine aw_false rfl ?_
      refine aw_skip ?_
      refine ae_then ?_
      refine aw_seq ?_
      refine aw_seq ?_
      by_cases h10 : ((rootR v_2).2) = 0
      · have hsq := root_square h10
        refine aw_reg [(1, .dec true)] [3, 4, 5, 6, 9, 10, 13, 14, 178] [3, 4, 5, 9, 13, 14] [.ref 3 0, .ref 4 0, .ref 5 0, I ((addR v_1 w_1).2), .ref 9 0, I ((timesR v_1 w_1).2), .ref 13 0, .ref 14 0, Bv true] [some (.box [I v_1.Num, I v_1.Den]), some (.box [I w_1.Num, I w_1.Den]), some (.box [I (((addR v_1 w_1).1).Num), I (((addR v_1 w_1).1).Den)]), some (.box [I (((timesR v_1 w_1).1).Num), I (((timesR v_1 w_1).1).Den)]), some (.box [I v_2.Num, I v_2.Den]), some (.box [I (((rootR v_2).1).Num), I (((rootR v_2).1).Den)])] [((rootR v_2).2) = 0] (by kernel_rfl) hB ⟨h10, trivial⟩ ?_
        refine ae_then ?_
        refine aw_true rfl ?_
        refine aw_seq ?_
        refine aw_reg [(1, .call [(true, .agg [I (((rootR v_2).1).Num), I (((rootR v_2).1).Den)]), (true, I 2)] true (.tup [.agg [I (((powR ((rootR v_2).1) 2).1).Num), I (((powR ((rootR v_2).1) 2).1).Den)], I ((powR ((rootR v_2).1) 2).2)])), (5, .new 30)] [3, 4, 5, 6, 9, 10, 13, 30, 31] [3, 4, 5, 9, 13, 30] [.ref 3 0, .ref 4 0, .ref 5 0, I ((addR v_1 w_1).2), .ref 9 0, I ((timesR v_1 w_1).2), .ref 13 0, .ref 30 0, I ((powR ((rootR v_2).1) 2).2)] [some (.box [I v_1.Num, I v_1.Den]), some (.box [I w_1.Num, I w_1.Den]), some (.box [I (((addR v_1 w_1).1).Num), I (((addR v_1 w_1).1).Den)]), some (.box [I (((timesR v_1 w_1).1).Num), I (((timesR v_1 w_1).1).Den)]), some (.box [I v_2.Num, I v_2.Den]), some (.box [I (((powR ((rootR v_2).1) 2).1).Num), I (((powR ((rootR v_2).1) 2).1).Den)])] [Con Tryd.prog 15 [.agg [I (((rootR v_2).1).Num), I (((rootR v_2).1).Den)], I 2] true (.tup [.agg [I (((powR ((rootR v_2).1) 2).1).Num), I (((powR ((rootR v_2).1) 2).1).Den)], I ((powR ((rootR v_2).1) 2).2)]) ∧ ((.agg [I (((rootR v_2).1).Num), I (((rootR v_2).1).Den)] : AV) = .agg [I (((rootR v_2).1).Num), I (((rootR v_2).1).Den)]) ∧ ((I 2 : AV) = I 2) ∧ True] (by kernel_rfl) hB ⟨⟨(implPowerFraction_ok ((rootR v_2).1) 2), rfl, rfl, trivial⟩, trivial⟩ ?_
        refine ae_then ?_
        refine aw_seq ?_
        refine aw_reg [(1, .dec false), (5, .dec false)] [3, 4, 5, 6, 9, 10, 190] [3, 4, 5, 9] [.ref 3 0, .ref 4 0, .ref 5 0, I ((addR v_1 w_1).2), .ref 9 0, I ((timesR v_1 w_1).2), Bv false] [some (.box [I v_1.Num, I v_1.Den]), some (.box [I w_1.Num, I w_1.Den]), some (.box [I (((addR v_1 w_1).1).Num), I (((addR v_1 w_1).1).Den)]), some (.box [I (((timesR v_1 w_1).1).Num), I (((timesR v_1 w_1).1).Den)])] [¬ (((powR ((rootR v_2).1) 2).2) ≠ 0), ¬ (¬ ((((powR ((rootR v_2).1) 2).1).Num) = v_2.Num ∧ (((powR ((rootR v_2).1) 2).1).Den) = v_2.Den ∧ True))] (by kernel_rfl) hB ⟨(fun hq => hq (congrArg Prod.snd hsq)), (fun hq => hq ⟨congrArg (fun z => z.1.Num) hsq, congrArg (fun z => z.1.Den) hsq, trivial⟩), trivial⟩ ?_
        refine ae_then ?_
        refine aw_false rfl ?_
        refine aw_skip ?_
        refine ae_then ?_
        refine aw_seq ?_
        refine aw_seq ?_
        by_cases h11 : ((addR v_1 w_1).2) = 0
        · have hab := add_back h11
          have fB2 := okFr_iff.1 hab.2.1
          refine aw_reg [(1, .dec false)] [3, 4, 5, 9, 10, 192] [3, 4, 5, 9] [.ref 3 0, .ref 4 0, .ref 5 0, .ref 9 0, I ((timesR v_1 w_1).2), Bv false] [some (.box [I v_1.Num, I v_1.Den]), some (.box [I w_1.Num, I w_1.Den]), some (.box [I (((addR v_1 w_1).1).Num), I (((addR v_1 w_1).1).Den)]), some (.box [I (((timesR v_1 w_1).1).Num), I (((timesR v_1 w_1).1).Den)])] [¬ (((addR v_1 w_1).2) ≠ 0)] (by kernel_rfl) hB ⟨(fun hq => hq h11), trivial⟩ ?_
          refine ae_then ?_
          refine aw_false rfl ?_
          refine aw_skip ?_
          refine ae_then ?_
          refine aw_seq ?_
          refine aw_reg [(7, .call [(true, .agg [I (((addR v_1 w_1).1).Num), I (((addR v_1 w_1).1).Den)]), (true, .agg [I (-w_1.Num), I w_1.Den])] true (.tup [.agg [I (((addR ((addR v_1 w_1).1) (Fraction.mk (-w_1.Num) w_1.Den)).1).Num), I (((addR ((addR v_1 w_1).1) (Fraction.mk (-w_1.Num) w_1.Den)).1).Den)], I ((addR ((addR v_1 w_1).1) (Fraction.mk (-w_1.Num) w_1.Den)).2)])), (11, .new 32)] [3, 4, 9, 10, 32, 33] [3, 4, 9, 32] [.ref 3 0, .ref 4 0, .ref 9 0, I ((timesR v_1 w_1).2), .ref 32 0, I ((addR ((addR v_1 w_1).1) (Fraction.mk (-w_1.Num) w_1.Den)).2)] [some (.box [I v_1.Num, I v_1.Den]), some (.box [I w_1.Num, I w_1.Den]), some (.box [I (((timesR v_1 w_1).1).Num), I (((timesR v_1 w_1).1).Den)]), some (.box [I (((addR ((addR v_1 w_1).1) (Fraction.mk (-w_1.Num) w_1.Den)).1).Num), I (((addR ((addR v_1 w_1).1) (Fraction.mk (-w_1.Num) w_1.Den)).1).Den)])] [inR .i64 (-w_1.Num), Con Tryd.prog 7 [.agg [I (((addR v_1 w_1).1).Num), I (((addR v_1 w_1).1).Den)], .agg [I (-w_1.Num), I w_1.Den]] true (.tup [.agg [I (((addR ((addR v_1 w_1).1) (Fraction.mk (-w_1.Num) w_1.Den)).1).Num), I (((addR ((addR v_1 w_1).1) (Fraction.mk (-w_1.Num) w_1.Den)).1).Den)], I ((addR ((addR v_1 w_1).1) (Fraction.mk (-w_1.Num) w_1.Den)).2)]) ∧ ((.agg [I (((addR v_1 w_1).1).Num), I (((addR v_1 w_1).1).Den)] : AV) = .agg [I (((addR v_1 w_1).1).Num), I (((addR v_1 w_1).1).Den)]) ∧ ((.agg [I (-w_1.Num), I w_1.Den] : AV) = .agg [I (-w_1.Num), I w_1.Den]) ∧ True] (by kernel_rfl) hB ⟨(inR_i64 (by omega) (by omega)), ⟨(implAddFractions_ok ((addR v_1 w_1).1) (Fraction.mk (-w_1.Num) w_1.Den)), rfl, rfl, trivial⟩, trivial⟩ ?_
          refine ae_then ?_
          refine aw_seq ?_
          refine aw_seq ?_
          refine aw_reg [(1, .dec false), (5, .dec false)] [3, 4, 9, 10, 210] [3, 4, 9] [.ref 3 0, .ref 4 0, .ref 9 0, I ((timesR v_1 w_1).2), Bv false] [some (.box [I v_1.Num, I v_1.Den]), some (.box [I w_1.Num, I w_1.Den]), some (.box [I (((timesR v_1 w_1).1).Num), I (((timesR v_1 w_1).1).Den)])] [¬ (((addR ((addR v_1 w_1).1) (Fraction.mk (-w_1.Num) w_1.Den)).2) ≠ 0), ¬ (¬ ((((addR ((addR v_1 w_1).1) (Fraction.mk (-w_1.Num) w_1.Den)).1).Num) = v_1.Num ∧ (((addR ((addR v_1 w_1).1) (Fraction.mk (-w_1.Num) w_1.Den)).1).Den) = v_1.Den ∧ True))] (by kernel_rfl) hB ⟨(fun hq => hq (congrArg Prod.snd hab.2.2)), (fun hq => hq ⟨congrArg (fun z => z.1.Num) hab.2.2, congrArg (fun z => z.1.Den) hab.2.2, trivial⟩), trivial⟩ ?_
          refine ae_then ?_
          refine aw_false rfl ?_
          refine aw_skip ?_
          refine ae_then ?_
          refine aw_seq ?_
          refine aw_seq ?_
          by_cases h12 : ((timesR v_1 w_1).2) = 0
          · by_cases h13 : w_1.Num = 0
            · refine aw_reg [(1, .dec false), (5, .dec true)] [3, 4, 9, 217] [3, 4, 9] [.ref 3 0, .ref 4 0, .ref 9 0, Bv true] [some (.box [I v_1.Num, I v_1.Den]), some (.box [I w_1.Num, I w_1.Den]), some (.box [I (((timesR v_1 w_1).1).Num), I (((timesR v_1 w_1).1).Den)])] [¬ (((timesR v_1 w_1).2) ≠ 0), w_1.Num = 0] (by kernel_rfl) hB ⟨(fun hq => hq h12), h13, trivial⟩ ?_
              refine ae_then ?_
              refine aw_true rfl ?_
              refine aw_seq ?_
              refine aw_reg [] [2] [] [Bv true] [] [] (by kernel_rfl) hB trivial ?_
              refine ae_then ?_
              refine aw_ret ?_
              refine ae_ret_then ?_
              refine ae_ret hB (Bv true) (by kernel_rfl) (.inl rfl) rfl (fun _ => trivial)
            · have htb := times_back h12 h13
              have htc : timesR (timesR v_1 w_1).1 (powR w_1 (-1)).1 = (v_1, 0) := by rw [htb.1]; exact htb.2
              refine aw_reg [(1, .dec false), (5, .dec false)] [3, 4, 9, 217] [3, 4, 9] [.ref 3 0, .ref 4 0, .ref 9 0, Bv false] [some (.box [I v_1.Num, I v_1.Den]), some (.box [I w_1.Num, I w_1.Den]), some (.box [I (((timesR v_1 w_1).1).Num), I (((timesR v_1 w_1).1).Den)])] [¬ (((timesR v_1 w_1).2) ≠ 0), ¬ (w_1.Num = 0)] (by kernel_rfl) hB ⟨(fun hq => hq h12), h13, trivial⟩ ?_
              refine ae_then ?_
              refine aw_false rfl ?_
              refine aw_skip ?_
              refine ae_then ?_
              refine aw_seq ?_
              refine aw_reg [(1, .call [(true, .agg [I w_1.Num, I w_1.Den]), (true, I (-1))] true (.tup [.agg [I (((powR w_1 (-1)).1).Num), I (((powR w_1 (-1)).1).Den)], I ((powR w_1 (-1)).2)])), (5, .new 34)] [3, 9, 34, 35] [3, 9, 34] [.ref 3 0, .ref 9 0, .ref 34 0, I ((powR w_1 (-1)).2)] [some (.box [I v_1.Num, I v_1.Den]), some (.box [I (((timesR v_1 w_1).1).Num), I (((timesR v_1 w_1).1).Den)]), some (.box [I (((powR w_1 (-1)).1).Num), I (((powR w_1 (-1)).1).Den)])] [Con Tryd.prog 15 [.agg [I w_1.Num, I w_1.Den], I (-1)] true (.tup [.agg [I (((powR w_1 (-1)).1).Num), I (((powR w_1 (-1)).1).Den)], I ((powR w_1 (-1)).2)]) ∧ ((.agg [I w_1.Num, I w_1.Den] : AV) = .agg [I w_1.Num, I w_1.Den]) ∧ ((I (-1) : AV) = I (-1)) ∧ True] (by kernel_rfl) hB ⟨⟨(implPowerFraction_ok w_1 (-1)), rfl, rfl, trivial⟩, trivial⟩ ?_
              refine ae_then ?_
              refine aw_seq ?_
              refine aw_reg [(2, .call [(true, .agg [I (((timesR v_1 w_1).1).Num), I (((timesR v_1 w_1).1).Den)]), (true, .agg [I (((powR w_1 (-1)).1).Num), I (((powR w_1 (-1)).1).Den)])] true (.tup [.agg [I (((timesR ((timesR v_1 w_1).1) ((powR w_1 (-1)).1)).1).Num), I (((timesR ((timesR v_1 w_1).1) ((powR w_1 (-1)).1)).1).Den)], I ((timesR ((timesR v_1 w_1).1) ((powR w_1 (-1)).1)).2)])), (6, .new 36)] [3, 35, 36, 37] [3, 36] [.ref 3 0, I ((powR w_1 (-1)).2), .ref 36 0, I ((timesR ((timesR v_1 w_1).1) ((powR w_1 (-1)).1)).2)] [some (.box [I v_1.Num, I v_1.Den]), some (.box [I (((timesR ((timesR v_1 w_1).1) ((powR w_1 (-1)).1)).1).Num), I (((timesR ((timesR v_1 w_1).1) ((powR w_1 (-1)).1)).1).Den)])] [Con Tryd.prog 9 [.agg [I (((timesR v_1 w_1).1).Num), I (((timesR v_1 w_1).1).Den)], .agg [I (((powR w_1 (-1)).1).Num), I (((powR w_1 (-1)).1).Den)]] true (.tup [.agg [I (((timesR ((timesR v_1 w_1).1) ((powR w_1 (-1)).1)).1).Num), I (((timesR ((timesR v_1 w_1).1) ((powR w_1 (-1)).1)).1).Den)], I ((timesR ((timesR v_1 w_1).1) ((powR w_1 (-1)).1)).2)]) ∧ ((.agg [I (((timesR v_1 w_1).1).Num), I (((timesR v_1 w_1).1).Den)] : AV) = .agg [I (((timesR v_1 w_1).1).Num), I (((timesR v_1 w_1).1).Den)]) ∧ ((.agg [I (((powR w_1 (-1)).1).Num), I (((powR w_1 (-1)).1).Den)] : AV) = .agg [I (((powR w_1 (-1)).1).Num), I (((powR w_1 (-1)).1).Den)]) ∧ True] (by kernel_rfl) hB ⟨⟨(implTimesFractions_ok ((timesR v_1 w_1).1) ((powR w_1 (-1)).1)), rfl, rfl, trivial⟩, trivial⟩ ?_
              refine ae_then ?_
              refine aw_seq ?_
              refine aw_reg [(1, .dec true), (4, .dec true), (9, .dec true)] [2] [] [Bv true] [] [((powR w_1 (-1)).2) = 0, ((timesR ((timesR v_1 w_1).1) ((powR w_1 (-1)).1)).2) = 0, (((timesR ((timesR v_1 w_1).1) ((powR w_1 (-1)).1)).1).Num) = v_1.Num ∧ (((timesR ((timesR v_1 w_1).1) ((powR w_1 (-1)).1)).1).Den) = v_1.Den ∧ True] (by kernel_rfl) hB ⟨(congrArg Prod.snd htb.1), (congrArg Prod.snd htc), ⟨congrArg (fun z => z.1.Num) htc, congrArg (fun z => z.1.Den) htc, trivial⟩, trivial⟩ ?_
              refine ae_then ?_
              refine aw_ret ?_
              refine ae_ret hB (Bv true) (by kernel_rfl) (.inl rfl) rfl (fun _ => trivial)
          · refine aw_reg [(1, .dec true)] [3, 4, 9, 217] [3, 4, 9] [.ref 3 0, .ref 4 0, .ref 9 0, Bv true] [some (.box [I v_1.Num, I v_1.Den]), some (.box [I w_1.Num, I w_1.Den]), some (.box [I (((timesR v_1 w_1).1).Num), I (((timesR v_1 w_1).1).Den)])] [((timesR v_1 w_1).2) ≠ 0] (by kernel_rfl) hB ⟨h12, trivial⟩ ?_
            refine ae_then ?_
            refine aw_true rfl ?_
            refine aw_seq ?_
            refine aw_reg [] [2] [] [Bv true] [] [] (by kernel_rfl) hB trivial ?_
            refine ae_then ?_
            refine aw_ret ?_
            refine ae_ret_then ?_
            refine ae_ret hB (Bv true) (by kernel_rfl) (.inl rfl) rfl (fun _ => trivial)
        · refine aw_reg [(1, .dec true)] [3, 4, 5, 9, 10, 192] [3, 4, 5, 9] [.ref 3 0, .ref 4 0, .ref 5 0, .ref 9 0, I ((timesR v_1 w_1).2), Bv true] [some (.box [I v_1.Num, I v_1.Den]), some (.box [I w_1.Num, I w_1.Den]), some (.box [I (((addR v_1 w_1).1).Num), I (((addR v_1 w_1).1).Den)]), some (.box [I (((timesR v_1 w_1).1).Num), I (((timesR v_1 w_1).1).Den)])] [((addR v_1 w_1).2) ≠ 0] (by kernel_rfl) hB ⟨h11, trivial⟩ ?_
          refine ae_then ?_
          refine aw_true rfl ?_
          refine aw_seq ?_
          refine aw_reg [] [2] [] [Bv true] [] [] (by kernel_rfl) hB trivial ?_
          refine ae_then ?_
          refine aw_ret ?_
          refine ae_ret_then ?_
          refine ae_ret hB (Bv true) (by kernel_rfl) (.inl rfl) rfl (fun _ => trivial)
      · refine aw_reg [(1, .dec false)] [3, 4, 5, 6, 9, 10, 13, 14, 178] [3, 4, 5, 9, 13, 14] [.ref 3 0, .ref 4 0, .ref 5 0, I ((addR v_1 w_1).2), .ref 9 0, I ((timesR v_1 w_1).2), .ref 13 0, .ref 14 0, Bv false] [some (.box [I v_1.Num, I v_1.Den]), some (.box [I w_1.Num, I w_1.Den]), some (.box [I (((addR v_1 w_1).1).Num), I (((addR v_1 w_1).1).Den)]), some (.box [I (((timesR v_1 w_1).1).Num), I (((timesR v_1 w_1).1).Den)]), some (.box [I v_2.Num, I v_2.Den]), some (.box [I (((rootR v_2).1).Num), I (((rootR v_2).1).Den)])] [¬ (((rootR v_2).2) = 0)] (by kernel_rfl) hB ⟨h10, trivial⟩ ?_
        refine ae_then ?_
        refine aw_false rfl ?_
        refine aw_skip ?_
        refine ae_then ?_
        refine aw_seq ?_
        refine aw_seq ?_
        by_cases h14 : ((addR v_1 w_1).2) = 0
        · have hab := add_back h14
          have fB2 := okFr_iff.1 hab.2.1
          refine aw_reg [(1, .dec false)] [3, 4, 5, 9, 10, 192] [3, 4, 5, 9] [.ref 3 0, .ref 4 0, .ref 5 0, .ref 9 0, I ((timesR v_1 w_1).2), Bv false] [some (.box [I v_1.Num, I v_1.Den]), some (.box [I w_1.Num, I w_1.Den]), some (.box [I (((addR v_1 w_1).1).Num), I (((addR v_1 w_1).1).Den)]), some (.box [I (((timesR v_1 w_1).1).Num), I (((timesR v_1 w_1).1).Den)])] [¬ (((addR v_1 w_1).2) ≠ 0)] (by kernel_rfl) hB ⟨(fun hq => hq h14), trivial⟩ ?_
          refine ae_then ?_
          refine aw_false rfl ?_
          refine aw_skip ?_
          refine ae_then ?_
          refine aw_seq ?_
          refine aw_reg [(7, .call [(true, .agg [I (((addR v_1 w_1).1).Num), I (((addR v_1 w_1).1).Den)]), (true, .agg [I (-w_1.Num), I w_1.Den])] true (.tup [.agg [I (((addR ((addR v_1 w_1).1) (Fraction.mk (-w_1.Num) w_1.Den)).1).Num), I (((addR ((addR v_1 w_1).1) (Fraction.mk (-w_1.Num) w_1.Den)).1).Den)], I ((addR ((addR v_1 w_1).1) (Fraction.mk (-w_1.Num) w_1.Den)).2)])), (11, .new 32)] [3, 4, 9, 10, 32, 33] [3, 4, 9, 32] [.ref 3 0, .ref 4 0, .ref 9 0, I ((timesR v_1 w_1).2), .ref 32 0, I ((addR ((addR v_1 w_1).1) (Fraction.mk (-w_1.Num) w_1.Den)).2)] [some (.box [I v_1.Num, I v_1.Den]), some (.box [I w_1.Num, I w_1.Den]), some (.box [I (((timesR v_1 w_1).1).Num), I (((timesR v_1 w_1).1).Den)]), some (.box [I (((addR ((addR v_1 w_1).1) (Fraction.mk (-w_1.Num) w_1.Den)).1).Num), I (((addR ((addR v_1 w_1).1) (Fraction.mk (-w_1.Num) w_1.Den)).1).Den)])] [inR .i64 (-w_1.Num), Con Tryd.prog 7 [.agg [I (((addR v_1 w_1).1).Num), I (((addR v_1 w_1).1).Den)], .agg [I (-w_1.Num), I w_1.Den]] true (.tup [.agg [I (((addR ((addR v_1 w_1).1) (Fraction.mk (-w_1.Num) w_1.Den)).1).Num), I (((addR ((addR v_1 w_1).1) (Fraction.mk (-w_1.Num) w_1.Den)).1).Den)], I ((addR ((addR v_1 w_1).1) (Fraction.mk (-w_1.Num) w_1.Den)).2)]) ∧ ((.agg [I (((addR v_1 w_1).1).Num), I (((addR v_1 w_1).1).Den)] : AV) = .agg [I (((addR v_1 w_1).1).Num), I (((addR v_1 w_1).1).Den)]) ∧ ((.agg [I (-w_1.Num), I w_1.Den] : AV) = .agg [I (-w_1.Num), I w_1.Den]) ∧ True] (by kernel_rfl) hB ⟨(inR_i64 (by omega) (by omega)), ⟨(implAddFractions_ok ((addR v_1 w_1).1) (Fraction.mk (-w_1.Num) w_1.Den)), rfl, rfl, trivial⟩, trivial⟩ ?_
          refine ae_then ?_
          refine aw_seq ?_
          refine aw_seq ?_
          refine aw_reg [(1, .dec false), (5, .dec false)] [3, 4, 9, 10, 210] [3, 4, 9] [.ref 3 0, .ref 4 0, .ref 9 0, I ((timesR v_1 w_1).2), Bv false] [some (.box [I v_1.Num, I v_1.Den]), some (.box [I w_1.Num, I w_1.Den]), some (.box [I (((timesR v_1 w_1).1).Num), I (((timesR v_1 w_1).1).Den)])] [¬ (((addR ((addR v_1 w_1).1) (Fraction.mk (-w_1.Num) w_1.Den)).2) ≠ 0), ¬ (¬ ((((addR ((addR v_1 w_1).1) (Fraction.mk (-w_1.Num) w_1.Den)).1).Num) = v_1.Num ∧ (((addR ((addR v_1 w_1).1) (Fraction.mk (-w_1.Num) w_1.Den)).1).Den) = v_1.Den ∧ True))] (by kernel_rfl) hB ⟨(fun hq => hq (congrArg Prod.snd hab.2.2)), (fun hq => hq ⟨congrArg (fun z => z.1.Num) hab.2.2, congrArg (fun z => z.1.Den) hab.2.2, trivial⟩), trivial⟩ ?_
          refine ae_then ?_
          refine aw_false rfl ?_
          refine aw_skip ?_
          refine ae_then ?_
          refine aw_seq ?_
          refine aw_seq ?_
          by_cases h15 : ((timesR v_1 w_1).2) = 0
          · by_cases h16 : w_1.Num = 0
            · refine aw_reg [(1, .dec false), (5, .dec true)] [3, 4, 9, 217] [3, 4, 9] [.ref 3 0, .ref 4 0, .ref 9 0, Bv true] [some (.box [I v_1.Num, I v_1.Den]), some (.box [I w_1.Num, I w_1.Den]), some (.box [I (((timesR v_1 w_1).1).Num), I (((timesR v_1 w_1).1).Den)])] [¬ (((timesR v_1 w_1).2) ≠ 0), w_1.Num = 0] (by kernel_rfl) hB ⟨(fun hq => hq h15), h16, trivial⟩ ?_
              refine ae_then ?_
              refine aw_true rfl ?_
              refine aw_seq ?_
              refine aw_reg [] [2] [] [Bv true] [] [] (by kernel_rfl) hB trivial ?_
              refine ae_then ?_
              refine aw_ret ?_
              refine ae_ret_then ?_
              refine ae_ret hB (Bv true) (by kernel_rfl) (.inl rfl) rfl (fun _ => trivial)
            · have htb := times_back h15 h16
              have htc : timesR (timesR v_1 w_1).1 (powR w_1 (-1)).1 = (v_1, 0) := by rw [htb.1]; exact htb.2
              refine aw_reg [(1, .dec false), (5, .dec false)] [3, 4, 9, 217] [3, 4, 9] [.ref 3 0, .ref 4 0, .ref 9 0, Bv false] [some (.box [I v_1.Num, I v_1.Den]), some (.box [I w_1.Num, I w_1.Den]), some (.box [I (((timesR v_1 w_1).1).Num), I (((timesR v_1 w_1).1).Den)])] [¬ (((timesR v_1 w_1).2) ≠ 0), ¬ (w_1.Num = 0)] (by kernel_rfl) hB ⟨(fun hq => hq h15), h16, trivial⟩ ?_
              refine ae_then ?_
              refine aw_false rfl ?_
              refine aw_skip ?_
              refine ae_then ?_
              refine aw_seq ?_
              refine aw_reg [(1, .call [(true, .agg [I w_1.Num, I w_1.Den]), (true, I (-1))] true (.tup [.agg [I (((powR w_1 (-1)).1).Num), I (((powR w_1 (-1)).1).Den)], I ((powR w_1 (-1)).2)])), (5, .new 34)] [3, 9, 34, 35] [3, 9, 34] [.ref 3 0, .ref 9 0, .ref 34 0, I ((powR w_1 (-1)).2)] [some (.box [I v_1.Num, I v_1.Den]), some (.box [I (((timesR v_1 w_1).1).Num), I (((timesR v_1 w_1).1).Den)]), some (.box [I (((powR w_1 (-1)).1).Num), I (((powR w_1 (-1)).1).Den)])] [Con Tryd.prog 15 [.agg [I w_1.Num, I w_1.Den], I (-1)] true (.tup [.agg [I (((powR w_1 (-1)).1).Num), I (((powR w_1 (-1)).1).Den)], I ((powR w_1 (-1)).2)]) ∧ ((.agg [I w_1.Num, I w_1.Den] : AV) = .agg [I w_1.Num, I w_1.Den]) ∧ ((I (-1) : AV) = I (-1)) ∧ True] (by kernel_rfl) hB ⟨⟨(implPowerFraction_ok w_1 (-1)), rfl, rfl, trivial⟩, trivial⟩ ?_
              refine ae_then ?_
              refine aw_seq ?_
              refine aw_reg [(2, .call [(true, .agg [I (((timesR v_1 w_1).1).Num), I (((timesR v_1 w_1).1).Den)]), (true, .agg [I (((powR w_1 (-1)).1).Num), I (((powR w_1 (-1)).1).Den)])] true (.tup [.agg [I (((timesR ((timesR v_1 w_1).1) ((powR w_1 (-1)).1)).1).Num), I (((timesR ((timesR v_1 w_1).1) ((powR w_1 (-1)).1)).1).Den)], I ((timesR ((timesR v_1 w_1).1) ((powR w_1 (-1)).1)).2)])), (6, .new 36)] [3, 35, 36, 37] [3, 36] [.ref 3 0, I ((powR w_1 (-1)).2), .ref 36 0, I ((timesR ((timesR v_1 w_1).1) ((powR w_1 (-1)).1)).2)] [some (.box [I v_1.Num, I v_1.Den]), some (.box [I (((timesR ((timesR v_1 w_1).1) ((powR w_1 (-1)).1)).1).Num), I (((timesR ((timesR v_1 w_1).1) ((powR w_1 (-1)).1)).1).Den)])] [Con Tryd.prog 9 [.agg [I (((timesR v_1 w_1).1).Num), I (((timesR v_1 w_1).1).Den)], .agg [I (((powR w_1 (-1)).1).Num), I (((powR w_1 (-1)).1).Den)]] true (.tup [.agg [I (((timesR ((timesR v_1 w_1).1) ((powR w_1 (-1)).1)).1).Num), I (((timesR ((timesR v_1 w_1).1) ((powR w_1 (-1)).1)).1).Den)], I ((timesR ((timesR v_1 w_1).1) ((powR w_1 (-1)).1)).2)]) ∧ ((.agg [I (((timesR v_1 w_1).1).Num), I (((timesR v_1 w_1).1).Den)] : AV) = .agg [I (((timesR v_1 w_1).1).Num), I (((timesR v_1 w_1).1).Den)]) ∧ ((.agg [I (((powR w_1 (-1)).1).Num), I (((powR w_1 (-1)).1).Den)] : AV) = .agg [I (((powR w_1 (-1)).1).Num), I (((powR w_1 (-1)).1).Den)]) ∧ True] (by kernel_rfl) hB ⟨⟨(implTimesFractions_ok ((timesR v_1 w_1).1) ((powR w_1 (-1)).1)), rfl, rfl, trivial⟩, trivial⟩ ?_
              refine ae_then ?_
              refine aw_seq ?_
              refine aw_reg [(1, .dec true), (4, .dec true), (9, .dec true)] [2] [] [Bv true] [] [((powR w_1 (-1)).2) = 0, ((timesR ((timesR v_1 w_1).1) ((powR w_1 (-1)).1)).2) = 0, (((timesR ((timesR v_1 w_1).1) ((powR w_1 (-1)).1)).1).Num) = v_1.Num ∧ (((timesR ((timesR v_1 w_1).1) ((powR w_1 (-1)).1)).1).Den) = v_1.Den ∧ True] (by kernel_rfl) hB ⟨(congrArg Prod.snd htb.1), (congrArg Prod.snd htc), ⟨congrArg (fun z => z.1.Num) htc, congrArg (fun z => z.1.Den) htc, trivial⟩, trivial⟩ ?_
              refine ae_then ?_
              refine aw_ret ?_
              refine ae_ret hB (Bv true) (by kernel_rfl) (.inl rfl) rfl (fun _ => trivial)
          · refine aw_reg [(1, .dec true)] [3, 4, 9, 217] [3, 4, 9] [.ref 3 0, .ref 4 0, .ref 9 0, Bv true] [some (.box [I v_1.Num, I v_1.Den]), some (.box [I w_1.Num, I w_1.Den]), some (.box [I (((timesR v_1 w_1).1).Num), I (((timesR v_1 w_1).1).Den)])] [((timesR v_1 w_1).2) ≠ 0] (by kernel_rfl) hB ⟨h15, trivial⟩ ?_
            refine ae_then ?_
            refine aw_true rfl ?_
            refine aw_seq ?_
            refine aw_reg [] [2] [] [Bv true] [] [] (by kernel_rfl) hB trivial ?_
            refine ae_then ?_
            refine aw_ret ?_
            refine ae_ret_then ?_
            refine ae_ret hB (Bv true) (by kernel_rfl) (.inl rfl) rfl (fun _ => trivial)
        · refine aw_reg [(1, .dec true)] [3, 4, 5, 9, 10, 192] [3, 4, 5, 9] [.ref 3 0, .ref 4 0, .ref 5 0, .ref 9 0, I ((timesR v_1 w_1).2), Bv true] [some (.box [I v_1.Num, I v_1.Den]), some (.box [I w_1.Num, I w_1.Den]), some (.box [I (((addR v_1 w_1).1).Num), I (((addR v_1 w_1).1).Den)]), some (.box [I (((timesR v_1 w_1).1).Num), I (((timesR v_1 w_1).1).Den)])] [((addR v_1 w_1).2) ≠ 0] (by kernel_rfl) hB ⟨h14, trivial⟩ ?_
          refine ae_then ?_
          refine aw_true rfl ?_
          refine aw_seq ?_
          refine aw_reg [] [2] [] [Bv true] [] [] (by kernel_rfl) hB trivial ?_
          refine ae_then ?_
          refine aw_ret ?_
          refine ae_ret_then ?_
          refine ae_ret hB (Bv true) (by kernel_rfl) (.inl rfl) rfl (fun _ => trivial)


/-! ### the row -/

theorem opens_t22 : OpensA Tryd.prog 22 (cLU8 false) (fun xs => ∀ y ∈ xs, inR .u8 y) :=
  opensA_slice (c := cU8) (sz := 1) Tryd.underlying22 (by kernel_rfl) (by decide) (fun x => ⟨rfl, by simp [oneA, cU8]⟩) (opensA_int Tryd.underlying5)

namespace fnFractions
set_option maxRecDepth 100000 in
theorem lifted (os : Os) (started : os.Started) (H : Type) (enc : TypeId × Value → H) :
    ReturnsInHanded {} Tryd.checked os 3 .any (fun w args => (Rows.fnFractionsSpec.pre enc Tryd.prog Tryd.f3 Rows.fnFractionsRow.domain false w args ∧ laidMetH Tryd.prog Rows.fnFractionsRow.laid w) ∧ sizedMet enc Tryd.prog Tryd.f3 (OpenSpec.ofChange Rows.fnFractionsSpec) false w args)
      (Rows.fnFractionsSpec.post enc Tryd.prog Tryd.f3 false true false false) := by
  refine returnsInHanded_of_change_and (C := Tryd.checked) (X := fun w _ => laidMetH Tryd.prog Rows.fnFractionsRow.laid w) (fun _ _ _ hh h => h.of_heap hh) Tryd.own started (by kernel_rfl) Tryd.func3
    (ChangeSpec.witness_shaped (enc := enc) (C := Tryd.checked) (os := os) (X := fun w _ => laidMetH Tryd.prog Rows.fnFractionsRow.laid w) false (World.laidAll Tryd.prog os Rows.fnFractionsRow.laid) #[.slice none 0 0] 8 (World.laidAll_os _ _ _)
      (World.shaped_of_ZipB (by kernel_rfl) (by kernel_rfl)) (by kernel_rfl) (by kernel_rfl) (by kernel_rfl)
      (by rw [MakeChecks.laidMetH_plain _ _ _ (by kernel_rfl)]; exact laidMet_laidAll _ (by kernel_rfl) (by kernel_rfl))) ?_
  intro W base args ds gs before hval0 hW hcnd hsz hL _
  have hW' := hW
  obtain ⟨p, q, hA0, hV, rfl, hfz, hnd⟩ := hW
  have hval : ∀ (j : Nat) t v, Tryd.f3.params[j]? = some t → args[j]? = some v → Value.okWide Tryd.prog W .any base t v := hval0
  have hA : DataW.TrodAll enc Tryd.prog W 0 (fun _ => true) true Tryd.f3.params.toList args.toList ds p := hA0
  rw [Tryd.params3] at hA hval
  obtain ⟨v0, vs0, d0, ds0, p0, q0, hargs, rfl, rfl, h0, r0⟩ := trodAll_cons hA
  obtain ⟨rfl, rfl, rfl⟩ := trodAll_nil r0
  obtain rfl : args = #[v0] := args_eq hargs
  obtain ⟨rfl, rfl⟩ := trodVars_none hV
  obtain ⟨fuel0, hf0⟩ := h0
  obtain ⟨A0, l0, c0, rfl⟩ := okWide_slice Tryd.underlying22 (hval 0 22 v0 rfl rfl)
  obtain ⟨x0, rx0, ok0⟩ := (opens_t22) enc W 0 _ _ _ _ _ hf0
  refine (walk_of0 (fnFractions_con x0 ok0) (fun w hk => WX_below (WX_laid (by rw [MakeChecks.laidMetH_plain _ _ _ (by kernel_rfl)] at hL; exact hL) (by first | exact .head _ | exact .tail _ (.head _) | exact .tail _ (.tail _ (.head _)))) w ⟨hk.os, hk.tape, hk.output, hk.size, fun k h1 => hk.block k h1 id⟩) (RelTL.cons (relTL_one rx0) RelTL.nil)).mono fun e W1 ⟨he, hb⟩ => ?_
  subst he
  exact ⟨_, rfl, law_post Tryd.laidOut rfl Tryd.underlying4 (of_decide_eq_true (by kernel_rfl)) rfl hW' hb rfl⟩

theorem over : Rows.fnFractionsRow.holds Tryd.pinned (OpenSpec.ofChange Rows.fnFractionsSpec) :=
  OpenClaim.holds_of_wide 3 Tryd.f3 rfl rfl rfl rfl rfl rfl rfl ⟨rfl, rfl, rfl, rfl, rfl⟩ rfl rfl rfl rfl rfl (by kernel_rfl) Tryd.func3 (by kernel_rfl)
    (of_decide_eq_true (by kernel_rfl)) (by unfold Func.isWrapper; first | (rw [if_pos (by decide +kernel)]; kernel_rfl) | (rw [if_neg (by decide +kernel)]; exact ⟨rfl, rfl⟩))
    (fun os started H enc _ => lifted os started H enc)

theorem proved : Rows.FnFractionsCardSaid :=
  Claim7.holds_tied_plain_at .later [] [.data, .data, .data] true (true, "200c645e61c385db44e779e8ce5c2c80f486ddfb2cabbd1accf484105d8b4827") false over (fun _ h => by cases h) (by kernel_rfl) (fun _ h => by cases h) fnFractions_row_tie rfl ⟨rfl, rfl⟩ (by kernel_rfl) rfl
    (fun f fn hf hfn => by
      obtain rfl : f = 3 := Option.some.inj ((show Tryd.prog.funcNamed "loop.example/g00918/laws.FnFractions" = some 3 by kernel_rfl).symm.trans hf) |>.symm
      obtain rfl : fn = Tryd.f3 := (Option.some.inj (Tryd.func3.symm.trans hfn)).symm
      exact ⟨by kernel_rfl, fun j t ht => by
        rw [Tryd.params3] at ht
        have hm : t ∈ [22] := by simpa using Array.mem_of_getElem? ht
        have hall : ([22].all fun u => !Tryd.prog.wantsStandIn u) = true := by kernel_rfl
        exact (show Tryd.prog.wantsStandIn t = false by simpa using List.all_eq_true.1 hall t hm)⟩)
    (by kernel_rfl)
#print axioms proved
end fnFractions
end Go.Proofs.YtngmfpjhlcfapaaDoor.Ax
